/- How much of all codes lengths take: room, Complete, on both sides. -/
import Derived.Test.YtndneidjnlammaaRev
import Derived.Test.YtndneidjnlammaaRref2
import Derived.Deep.LoopGhost
namespace Go.Proofs.Ytndneidjnlammaa
open Go.RowKit Pl
set_option linter.unusedVariables false
set_option linter.unusedSimpArgs false
def ints (x : List Nat) : List Int := x.map (fun (n : Nat) => (n : Int))
theorem ints_length (x : List Nat) : (ints x).length = x.length := by simp [ints]
theorem ints_at {x : List Nat} {k c : Nat} (h : x[k]? = some c) : (ints x).getD k 0 = (c : Int) := by simp [ints, h]
/-- What one length takes. -/
def unit (k : Nat) : Nat := if 1 ≤ k ∧ k ≤ 15 then 2 ^ (15 - k) else 0
def room (l : List Nat) : Nat := (l.map unit).sum
theorem room_nil : room [] = 0 := rfl
theorem room_snoc (l : List Nat) (k : Nat) : room (l ++ [k]) = room l + unit k := by simp [room]
theorem room_take {l : List Nat} {k c : Nat} (h : l[k]? = some c) : room (l.take (k + 1)) = room (l.take k) + unit c := by
  rw [List.take_add_one, h]; exact room_snoc _ _
theorem unit_le (k : Nat) : unit k ≤ 16384 := by
  unfold unit
  split
  · exact Nat.pow_le_pow_right (n := 2) (by omega) (by omega : 15 - k ≤ 14)
  · omega
theorem room_le (l : List Nat) : room l ≤ 16384 * l.length := by
  induction l with
  | nil => exact Nat.le_refl _
  | cons a l ih =>
    have h1 : room (a :: l) = unit a + room l := by simp [room]
    have := unit_le a
    rw [h1, List.length_cons]
    omega
def complete (l : List Nat) : Int := if room l < 32768 then -1 else if 32768 < room l then 1 else 0
theorem shr_room (c : Nat) (h : 1 ≤ c ∧ c ≤ 15) : (32768 : Int) / 2 ^ c = ((unit c : Nat) : Int) := by
  obtain ⟨h1, h2⟩ := h
  have : ∀ c : Nat, c ≤ 15 → 1 ≤ c → (32768 : Int) / 2 ^ c = ((unit c : Nat) : Int) := by decide
  exact this c h2 h1
theorem shl_room (c : Nat) (h : 1 ≤ c ∧ c ≤ 15) : (2 : Int) ^ (15 - c) = ((unit c : Nat) : Int) := by
  unfold unit
  rw [if_pos h]
  simp
theorem unit_out {c : Nat} (h : ¬ (1 ≤ c ∧ c ≤ 15)) : unit c = 0 := by unfold unit; rw [if_neg h]
set_option maxRecDepth 100000 in
set_option maxHeartbeats 4000000 in
theorem room_any (a0 : Option Addr) (len cap : Nat) (ls : List Nat) (W : World) (hs : SlAt .u8 W a0 len (ints ls)) (hb : ∀ c ∈ ls, c < 256) (hl : len ≤ 1000000) :
    Calls Try.prog 26 #[.slice a0 len cap] W fun e w' => e = .returned (.int .i64 (room ls : Nat)) ∧ w' = W := by
  have hll : ls.length = len := by rw [← hs.1, ints_length]
  have H := Lib.hid (And.intro hs (And.intro hb hll))
  clear hs hb hll
  go_enter Try.func26, Try.ntmps26
  go_wp2
  go_loopg [3, 5, 8] len (fun gg nv _ kv wr => ∃ k : Nat, len ≤ gg + k ∧ k ≤ len ∧ kv = .int .i64 (k : Int) ∧ nv = .int .i64 (room (ls.take k) : Nat) ∧ wr = W)
  case atStart => exact ⟨0, by omega, by omega, rfl, rfl, rfl⟩
  case round =>
    obtain ⟨k, hgg, hkl, rfl, rfl, rfl⟩ := hrel
    by_cases hk : k < len
    · have gk0 : decide (k < len) = true := decide_eq_true hk
      obtain ⟨b, off, rfl, hc⟩ := H.out.1.2.resolve_left (by omega)
      obtain ⟨c, hcc⟩ : ∃ c, ls[k]? = some c := ⟨_, List.getElem?_eq_getElem (by rw [H.out.2.2]; exact hk)⟩
      have hck := hc k hk
      rw [ints_at hcc] at hck
      have hc256 := H.out.2.1 c (List.mem_of_getElem? hcc)
      have hst := room_take hcc
      have hrl := room_le (ls.take k)
      have htl : (ls.take k).length ≤ 1000000 := by rw [List.length_take, H.out.2.2]; omega
      have hul := unit_le c
      obtain ⟨r, hr⟩ : ∃ r, room (ls.take k) = r := ⟨_, rfl⟩
      rw [hr] at hst hrl ⊢
      have HST := Lib.hid hst
      have wk : IntKind.i64.wrap ((k : Int) + 1) = (k : Int) + 1 := IntWalk.i64_in _ (by omega)
      by_cases hu : 1 ≤ c ∧ c ≤ 15
      · have g1 : decide (0 < c) = true := decide_eq_true (by omega)
        have g1' : decide ((0 : Int) < (c : Int)) = true := decide_eq_true (by omega)
        have g2 : decide (c ≤ 15) = true := decide_eq_true hu.2
        have g2' : decide ((c : Int) ≤ 15) = true := decide_eq_true (by omega)
        have s0 : min c 64 = c := by omega
        have s1 := shr_room c hu
        obtain ⟨u, hu2⟩ : ∃ u, unit c = u := ⟨_, rfl⟩
        rw [hu2] at s1 hul HST
        have s2 : IntKind.i64.wrap (u : Int) = (u : Int) := IntWalk.i64_in _ (by omega)
        have s3 : IntKind.i64.wrap ((r : Int) + (u : Int)) = (r : Int) + (u : Int) := IntWalk.i64_in _ (by omega)
        have s4 : ¬ (c : Int) < 0 := by omega
        clear hc hcc hst hr hu2 hc256
        go_wp2
        go_roundg (gk - 1)
        case rel => exact ⟨k + 1, by omega, by omega, by simp, by rw [HST.out]; simp, rfl⟩
        case measure => omega
      · rw [unit_out hu, Nat.add_zero] at hst
        have HST2 := Lib.hid hst
        have hcs : c = 0 ∨ 15 < c := by omega
        clear hc hcc hst hr hul HST
        rcases hcs with rfl | hc15
        · go_wp2
          go_roundg (gk - 1)
          case rel => exact ⟨k + 1, by omega, by omega, by simp, by rw [HST2.out]; simp, rfl⟩
          case measure => omega
        · have g1 : decide (0 < c) = true := decide_eq_true (by omega)
          have g1' : decide ((0 : Int) < (c : Int)) = true := decide_eq_true (by omega)
          have g2 : decide (c ≤ 15) = false := decide_eq_false (by omega)
          have g2' : decide ((c : Int) ≤ 15) = false := decide_eq_false (by omega)
          go_wp2
          go_roundg (gk - 1)
          case rel => exact ⟨k + 1, by omega, by omega, by simp, by rw [HST2.out]; simp, rfl⟩
          case measure => omega
    · obtain rfl : k = len := by omega
      have gk0 : decide (k < k) = false := decide_eq_false (by omega)
      have e : ls.take k = ls := List.take_of_length_le (by rw [H.out.2.2]; exact Nat.le_refl _)
      rw [e]
      clear e
      go_wp2
      exact bodyPost_ret (v := .int .i64 (room ls : Nat)) (by simp [results, Try.results26, go_sem]) rfl ⟨rfl, rfl⟩
set_option maxRecDepth 100000 in
set_option maxHeartbeats 4000000 in
theorem complete_any (a0 : Option Addr) (len cap : Nat) (ls : List Nat) (W : World) (hs : SlAt .u8 W a0 len (ints ls)) (hb : ∀ c ∈ ls, c < 256) (hl : len ≤ 1000000) :
    Calls Try.prog 10 #[.slice a0 len cap] W fun e w' => e = .returned (.int .i64 (complete ls)) ∧ w' = W := by
  have HR := Lib.hid (room_any a0 len cap ls W hs hb hl)
  unfold complete
  obtain ⟨r, hr⟩ : ∃ r, room ls = r := ⟨_, rfl⟩
  rw [hr] at HR ⊢
  clear hr hs hb hl
  by_cases h1 : r < 32768
  · rw [if_pos h1]
    have g1 : decide (r < 32768) = true := decide_eq_true h1
    have g1' : decide ((r : Int) < 32768) = true := decide_eq_true (by omega)
    go_enter Try.func10, Try.ntmps10
    go_wp2_with fail
    refine HR.out.mono ?_
    rintro e w1 ⟨rfl, rfl⟩
    go_wp2
    exact bodyPost_ret (v := .int .i64 (-1)) (by simp [results, Try.results10, go_sem]) rfl ⟨rfl, rfl⟩
  · rw [if_neg h1]
    have g1 : decide (r < 32768) = false := decide_eq_false h1
    have g1' : decide ((r : Int) < 32768) = false := decide_eq_false (by omega)
    by_cases h2 : 32768 < r
    · rw [if_pos h2]
      have g2 : decide (32768 < r) = true := decide_eq_true h2
      have g2' : decide ((32768 : Int) < (r : Int)) = true := decide_eq_true (by omega)
      go_enter Try.func10, Try.ntmps10
      go_wp2_with fail
      refine HR.out.mono ?_
      rintro e w1 ⟨rfl, rfl⟩
      go_wp2
      exact bodyPost_ret (v := .int .i64 1) (by simp [results, Try.results10, go_sem]) rfl ⟨rfl, rfl⟩
    · rw [if_neg h2]
      have g2 : decide (32768 < r) = false := decide_eq_false h2
      have g2' : decide ((32768 : Int) < (r : Int)) = false := decide_eq_false (by omega)
      go_enter Try.func10, Try.ntmps10
      go_wp2_with fail
      refine HR.out.mono ?_
      rintro e w1 ⟨rfl, rfl⟩
      go_wp2
      exact bodyPost_ret (v := .int .i64 0) (by simp [results, Try.results10, go_sem]) rfl ⟨rfl, rfl⟩
set_option maxRecDepth 100000 in
set_option maxHeartbeats 4000000 in
theorem rcomplete_any (a0 : Option Addr) (len cap : Nat) (ls : List Nat) (W : World) (hs : SlAt .u8 W a0 len (ints ls)) (hb : ∀ c ∈ ls, c < 256) (hl : len ≤ 1000000) :
    Calls Try.prog 11 #[.slice a0 len cap] W fun e w' => e = .returned (.int .i64 (complete ls)) ∧ w' = W := by
  have hll : ls.length = len := by rw [← hs.1, ints_length]
  obtain ⟨CV, hCV⟩ : ∃ CV, complete ls = CV := ⟨_, rfl⟩
  rw [hCV]
  have HCV := Lib.hid hCV
  clear hCV
  have H := Lib.hid (And.intro hs (And.intro hb hll))
  clear hs hb hll
  go_enter Try.func11, Try.ntmps11
  go_wp2
  go_loopg [3, 4] len (fun gg nv kv wr => ∃ k : Nat, len ≤ gg + k ∧ k ≤ len ∧ kv = .int .i64 (k : Int) ∧ nv = .int .i64 (room (ls.take k) : Nat) ∧ wr = W)
  case atStart => exact ⟨0, by omega, by omega, rfl, rfl, rfl⟩
  case round =>
    obtain ⟨k, hgg, hkl, rfl, rfl, rfl⟩ := hrel
    by_cases hk : k < len
    · have gk0 : decide (k < len) = true := decide_eq_true hk
      obtain ⟨b, off, rfl, hc⟩ := H.out.1.2.resolve_left (by omega)
      obtain ⟨c, hcc⟩ : ∃ c, ls[k]? = some c := ⟨_, List.getElem?_eq_getElem (by rw [H.out.2.2]; exact hk)⟩
      have hck := hc k hk
      rw [ints_at hcc] at hck
      have hc256 := H.out.2.1 c (List.mem_of_getElem? hcc)
      have hst := room_take hcc
      have hrl := room_le (ls.take k)
      have htl : (ls.take k).length ≤ 1000000 := by rw [List.length_take, H.out.2.2]; omega
      have hul := unit_le c
      obtain ⟨r, hr⟩ : ∃ r, room (ls.take k) = r := ⟨_, rfl⟩
      rw [hr] at hst hrl ⊢
      have HST := Lib.hid hst
      have wk : IntKind.i64.wrap ((k : Int) + 1) = (k : Int) + 1 := IntWalk.i64_in _ (by omega)
      by_cases hu : 1 ≤ c ∧ c ≤ 15
      · have g1 : decide (1 ≤ c) = true := decide_eq_true (by omega)
        have g1' : decide ((1 : Int) ≤ (c : Int)) = true := decide_eq_true (by omega)
        have g2 : decide (c ≤ 15) = true := decide_eq_true hu.2
        have g2' : decide ((c : Int) ≤ 15) = true := decide_eq_true (by omega)
        have s1 := shl_room c hu
        obtain ⟨u, hu2⟩ : ∃ u, unit c = u := ⟨_, rfl⟩
        rw [hu2] at s1 hul HST
        obtain ⟨f, hf⟩ : ∃ f, 15 - c = f := ⟨_, rfl⟩
        rw [hf] at s1
        have s0 : min f 64 = f := by omega
        have s5 : (15 : Int) - (c : Int) = (f : Int) := by omega
        have s6 : IntKind.u8.wrap (f : Int) = (f : Int) := IntWalk.u8_in _ (by omega)
        have s7 : IntKind.u64.wrap (f : Int) = (f : Int) := IntWalk.u64_in _ (by omega)
        have s2 : IntKind.i64.wrap (u : Int) = (u : Int) := IntWalk.i64_in _ (by omega)
        have s3 : IntKind.i64.wrap ((r : Int) + (u : Int)) = (r : Int) + (u : Int) := IntWalk.i64_in _ (by omega)
        have s4 : ¬ (f : Int) < 0 := by omega
        clear hc hcc hst hr hu2 hc256 hf
        go_wp2
        go_roundg (gk - 1)
        case rel => exact ⟨k + 1, by omega, by omega, by simp, by rw [HST.out]; simp, rfl⟩
        case measure => omega
      · rw [unit_out hu, Nat.add_zero] at hst
        have HST2 := Lib.hid hst
        have hcs : c = 0 ∨ 15 < c := by omega
        clear hc hcc hst hr hul HST
        rcases hcs with rfl | hc15
        · go_wp2
          go_roundg (gk - 1)
          case rel => exact ⟨k + 1, by omega, by omega, by simp, by rw [HST2.out]; simp, rfl⟩
          case measure => omega
        · have g1 : decide (1 ≤ c) = true := decide_eq_true (by omega)
          have g1' : decide ((1 : Int) ≤ (c : Int)) = true := decide_eq_true (by omega)
          have g2 : decide (c ≤ 15) = false := decide_eq_false (by omega)
          have g2' : decide ((c : Int) ≤ 15) = false := decide_eq_false (by omega)
          go_wp2
          go_roundg (gk - 1)
          case rel => exact ⟨k + 1, by omega, by omega, by simp, by rw [HST2.out]; simp, rfl⟩
          case measure => omega
    · obtain rfl : k = len := by omega
      have gk0 : decide (k < k) = false := decide_eq_false (by omega)
      have e : ls.take k = ls := List.take_of_length_le (by rw [H.out.2.2]; exact Nat.le_refl _)
      rw [e]
      clear e
      have hcv := HCV.out
      unfold complete at hcv
      obtain ⟨r, hr⟩ : ∃ r, room ls = r := ⟨_, rfl⟩
      rw [hr] at hcv ⊢
      clear hr
      by_cases h1 : r < 32768
      · rw [if_pos h1] at hcv
        have g1 : decide (r < 32768) = true := decide_eq_true h1
        have g1' : decide ((r : Int) < 32768) = true := decide_eq_true (by omega)
        subst hcv
        go_wp2
        exact bodyPost_ret (v := .int .i64 (-1)) (by simp [results, Try.results11, go_sem]) rfl ⟨rfl, rfl⟩
      · rw [if_neg h1] at hcv
        have g1 : decide (r < 32768) = false := decide_eq_false h1
        have g1' : decide ((r : Int) < 32768) = false := decide_eq_false (by omega)
        by_cases h2 : 32768 < r
        · rw [if_pos h2] at hcv
          have g2 : decide (32768 < r) = true := decide_eq_true h2
          have g2' : decide ((32768 : Int) < (r : Int)) = true := decide_eq_true (by omega)
          subst hcv
          go_wp2
          exact bodyPost_ret (v := .int .i64 1) (by simp [results, Try.results11, go_sem]) rfl ⟨rfl, rfl⟩
        · rw [if_neg h2] at hcv
          have g2 : decide (32768 < r) = false := decide_eq_false h2
          have g2' : decide ((32768 : Int) < (r : Int)) = false := decide_eq_false (by omega)
          subst hcv
          go_wp2
          exact bodyPost_ret (v := .int .i64 0) (by simp [results, Try.results11, go_sem]) rfl ⟨rfl, rfl⟩
end Go.Proofs.Ytndneidjnlammaa
