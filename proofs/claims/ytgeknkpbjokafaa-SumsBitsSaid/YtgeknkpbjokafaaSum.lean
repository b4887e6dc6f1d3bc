/- The other functions of both sums: what each computes, and what becomes of memory. -/
import Derived.Test.YtgeknkpbjokafaaCrc
namespace Go.Proofs.Ytgeknkpbjokafaa
open Go.RowKit Pl
set_option linter.unusedVariables false
theorem newCrc (w : World) : Calls Try.prog 7 #[] w fun e w' => e = .returned (.pointer (some ⟨w.heap.size, 0, none⟩)) ∧ w.alloc (crcBlk 4294967295) = w' := by
  go_enter Try.func7, Try.ntmps7
  go_wp2
  go_ret
  exact ⟨rfl, rfl⟩
def adlBlk (s : Nat × Nat) : Obj := .cells #[.int .u32 (s.1 : Int), .int .u32 (s.2 : Int)] 45 (0, 0)
theorem newAdler (w : World) : Calls Try.prog 8 #[] w fun e w' => e = .returned (.pointer (some ⟨w.heap.size, 0, none⟩)) ∧ w.alloc (adlBlk (1, 0)) = w' := by
  go_enter Try.func8, Try.ntmps8
  go_wp2
  go_ret
  exact ⟨rfl, rfl⟩
def crcV (x : Nat) : Nat := 4294967295 ^^^ x
def adlV (s : Nat × Nat) : Nat := s.2 * 65536 + s.1
theorem crcSum (p x : Nat) (w : World) (hp : w.heap[p]? = some (crcBlk x)) (hx : x < 4294967296) :
  Calls Try.prog 11 #[.pointer (some ⟨p, 0, none⟩)] w fun e w' => e = .returned (.int .u32 (crcV x : Int)) ∧ w = w' := by
  have hp0 : w.cell? ⟨p, 0, none⟩ = some (.int .u32 (x : Int)) := blk_cell hp 0
  clear hp
  go_enter Try.func11, Try.ntmps11
  go_wp2
  go_ret
  exact ⟨ret_int (u32_xor_nat 4294967295 x (by omega) hx), rfl⟩
theorem adl_or {s : Nat × Nat} (h1 : s.1 < 65521) (h2 : s.2 < 65521) : bits BinOp.or IntKind.u32 ((s.2 : Int) * 65536) (s.1 : Int) = (adlV s : Int) := by
  rw [show ((s.2 : Int) * 65536) = ((s.2 * 65536 : Nat) : Int) by omega, u32_or_nat _ _ (by omega) (by omega), nat_join 16 _ _ (by omega) (by omega)]
  rfl
theorem adlerSum (p : Nat) (s : Nat × Nat) (w : World) (hp : w.heap[p]? = some (adlBlk s)) (h1 : s.1 < 65521) (h2 : s.2 < 65521) :
  Calls Try.prog 13 #[.pointer (some ⟨p, 0, none⟩)] w fun e w' => e = .returned (.int .u32 (adlV s : Int)) ∧ ∃ n, w' = w.drewN n := by
  have hp0 : w.cell? ⟨p, 0, none⟩ = some (.int .u32 (s.1 : Int)) := blk_cell hp 0
  have hp1 : w.cell? ⟨p, 1, none⟩ = some (.int .u32 (s.2 : Int)) := blk_cell hp 1
  clear hp
  go_enter Try.func13, Try.ntmps13
  go_wp2
  go_quiet (fail)
  go_wp2
  go_ret
  exact ⟨ret_int (adl_or h1 h2), _, rfl⟩

theorem adls_succ {s : Nat × Nat} {xs : List Int} {k z : Nat} (hk : k < xs.length) (hz : xs.getD k 0 = (z : Int)) :
    adls s (nats (xs.take (k + 1))) = adl (adls s (nats (xs.take k))) z := by
  rw [nats_succ hk hz, adls_append]
  rfl
set_option maxHeartbeats 1000000 in
theorem adlerWrite (p len cap : Nat) (s : Nat × Nat) (a0 : Option Addr) (xs : List Int) (w : World) (hp : w.heap[p]? = some (adlBlk s)) (h1 : s.1 < 65521) (h2 : s.2 < 65521) (hs : SlAt .u8 w a0 len xs)
    (hlen : len ≤ 9223372036854775807) (hr : Bytes xs) (hne : ∀ b off, 0 < len → a0 = some ⟨b, off, none⟩ → b ≠ p) :
    Calls Try.prog 10 #[.pointer (some ⟨p, 0, none⟩), .slice a0 len cap] w fun e w' =>
      e = .returned (.tuple #[.int .i64 len, .nilIface]) ∧ w'.heap[p]? = some (adlBlk (adls s (nats xs))) ∧ Kept (· = p) w w' := by
  have hpw := lt_of_blk hp
  have hzl : xs.length = len := hs.1
  go_enter Try.func10, Try.ntmps10
  go_wp2
  go_loopw [10] (fun i wr => ∃ k : Nat, k ≤ len ∧ i = .int .i64 k ∧ wr.heap[p]? = some (adlBlk (adls s (nats (xs.take k)))) ∧ Kept (· = p) w wr)
     (fun i _ => len - (intOf i).toNat)
  case atStart => exact ⟨0, Nat.zero_le _, rfl, hp, Kept.refl _ _⟩
  case round =>
    obtain ⟨k, hk, rfl, hpr, hkr⟩ := hrel
    have hyb := adls_lt (nats (xs.take k)) h1 h2
    obtain ⟨y, hy⟩ : ∃ y, y = adls s (nats (xs.take k)) := ⟨_, rfl⟩
    rw [← hy] at hpr hyb
    have HY := Lib.hid hy
    have HP := Lib.hid hpr
    obtain ⟨y1, y2⟩ := y
    obtain ⟨hb1, hb2⟩ := hyb
    simp only at hb1 hb2
    have hp0 : wr.cell? ⟨p, 0, none⟩ = some (.int .u32 (y1 : Int)) := blk_cell hpr 0
    have hp1 : wr.cell? ⟨p, 1, none⟩ = some (.int .u32 (y2 : Int)) := blk_cell hpr 1
    have hpf : wr.frozen? ⟨p, 0, none⟩ = false := blk_free hpr 0
    have hpf1 : wr.frozen? ⟨p, 1, none⟩ = false := blk_free hpr 1
    clear hy hpr
    by_cases hlt' : k < len
    · obtain ⟨z, hzb, hz1⟩ := hr.at (k := k) (by omega)
      obtain ⟨b, off, rfl, hc⟩ := hs.2.resolve_left (by omega)
      have hcell : wr.cell? ⟨b, off + k, none⟩ = some (.int .u8 (z : Int)) := hkr.cell (by rw [hc k hlt', hz1]) (hne b off (by omega) rfl)
      have HZ := Lib.hid hz1
      have HS := adls_succ (s := s) (xs := xs) (k := k) (by omega) hz1
      rw [← HY.out] at HS
      have HS := Lib.hid HS
      clear hz1 hc hs
      go_wp2
      go_region
      go_wp2
      go_roundw
      case rel =>
        refine ⟨k + 1, by omega, by go_num, ?_, ?_⟩
        · rw [HS.out]
          have ev1 : ((y1 : Int) + z) % 65521 = ((adl (y1, y2) z).1 : Int) := by simp [adl]
          have ev2 : ((y2 : Int) + ((y1 : Int) + z)) % 65521 = ((adl (y1, y2) z).2 : Int) := by simp [adl]
          rw [ev1, ev2]
          exact blk_set (blk_set HP.out 0 (.int .u32 ((adl (y1, y2) z).1 : Int))) 1 (.int .u32 ((adl (y1, y2) z).2 : Int))
        · exact (((hkr.setCell (.inl rfl) _).setCell (.inl rfl) _)).drew
      case measure => simp [intOf]; omega
    · obtain rfl : k = len := by omega
      have hxs : xs.take k = xs := List.take_of_length_le (by omega)
      go_wp2
      go_ret2
      exact ⟨rfl, by rw [HP.out, HY.out, hxs], hkr⟩

set_option maxHeartbeats 1000000 in
theorem refAdler (len cap : Nat) (a0 : Option Addr) (xs : List Int) (w : World) (hs : SlAt .u8 w a0 len xs)
    (hlen : len ≤ 9223372036854775807) (hr : Bytes xs) :
    Calls Try.prog 14 #[.slice a0 len cap] w fun e w' => e = .returned (.int .u32 (adlV (adls (1, 0) (nats xs)) : Int)) ∧ w = w' := by
  have hzl : xs.length = len := hs.1
  go_enter Try.func14, Try.ntmps14
  go_wp2
  go_loop [3, 4, 5] (fun s t i => ∃ k : Nat, k ≤ len ∧ i = .int .i64 k ∧ s = .int .u32 ((adls (1, 0) (nats (xs.take k))).1 : Int) ∧ t = .int .u32 ((adls (1, 0) (nats (xs.take k))).2 : Int))
     (fun _ _ i => len - (intOf i).toNat)
  case atStart => exact ⟨0, Nat.zero_le _, rfl, rfl, rfl⟩
  case round =>
    obtain ⟨k, hk, rfl, hs1, hs2⟩ := hrel
    have hyb := adls_lt (s := (1, 0)) (nats (xs.take k)) (by decide) (by decide)
    obtain ⟨y, hy⟩ : ∃ y, y = adls (1, 0) (nats (xs.take k)) := ⟨_, rfl⟩
    rw [← hy] at hs1 hs2 hyb
    have HY := Lib.hid hy
    obtain ⟨y1, y2⟩ := y
    obtain ⟨hb1, hb2⟩ := hyb
    simp only at hb1 hb2 hs1 hs2
    subst hs1 hs2
    clear hy
    by_cases hlt' : k < len
    · obtain ⟨z, hzb, hz1⟩ := hr.at (k := k) (by omega)
      obtain ⟨b, off, rfl, hc⟩ := hs.2.resolve_left (by omega)
      have hcell : w.cell? ⟨b, off + k, none⟩ = some (.int .u8 (z : Int)) := by rw [hc k hlt', hz1]
      have HZ := Lib.hid hz1
      have HS := adls_succ (s := (1, 0)) (xs := xs) (k := k) (by omega) hz1
      rw [← HY.out] at HS
      have HS := Lib.hid HS
      clear hz1 hc hs
      go_wp2
      go_round
      case rel =>
        refine ⟨k + 1, by omega, by go_num, ?_, ?_⟩
        · rw [HS.out]; simp [adl]
        · rw [HS.out]; simp [adl]
      case measure => simp [intOf]; omega
    · obtain rfl : k = len := by omega
      have hxs : xs.take k = xs := List.take_of_length_le (by omega)
      go_wp2
      go_ret
      exact ⟨ret_int (by rw [show adls (1, 0) (nats xs) = (y1, y2) by rw [HY.out, hxs]]; exact adl_or (s := (y1, y2)) hb1 hb2), rfl⟩
end Go.Proofs.Ytgeknkpbjokafaa
