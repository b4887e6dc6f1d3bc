/- The CRC's functions: what each computes, and what becomes of memory. -/
import Derived.Test.YtgeknkpbjokafaaRows
import Derived.Test.YtgeknkpbjokafaaPlain
import Derived.Test.YtgeknkpbjokafaaBase
import Derived.WalkLawsBesides
namespace Go.Proofs.Ytgeknkpbjokafaa
open Go.RowKit Pl
set_option linter.unusedVariables false

/-- A list of bytes. -/
def Bytes (xs : List Int) : Prop := ∀ n ∈ xs, 0 ≤ n ∧ n < 256
def nats (xs : List Int) : List Nat := xs.map Int.toNat
theorem Bytes.nats {xs : List Int} (h : Bytes xs) : ∀ n ∈ nats xs, n < 256 := by
  intro n hn
  simp only [Ytgeknkpbjokafaa.nats, List.mem_map] at hn
  obtain ⟨a, ha, rfl⟩ := hn
  have := h a ha
  omega
theorem Bytes.take {xs : List Int} (h : Bytes xs) (k : Nat) : Bytes (xs.take k) := fun n hn => h n (List.mem_of_mem_take hn)
theorem Bytes.at {xs : List Int} (h : Bytes xs) {k : Nat} (hk : k < xs.length) : ∃ z : Nat, z < 256 ∧ xs.getD k 0 = (z : Int) := by
  have h1 := h (xs[k]) (List.getElem_mem hk)
  refine ⟨(xs[k]).toNat, by omega, ?_⟩
  simp [hk]
  omega
theorem nats_succ {xs : List Int} {k z : Nat} (hk : k < xs.length) (hz : xs.getD k 0 = (z : Int)) : nats (xs.take (k + 1)) = nats (xs.take k) ++ [z] := by
  have : xs[k] = (z : Int) := by simpa [hk] using hz
  rw [List.take_succ_eq_append_getElem hk, this]
  simp [nats]
theorem crcs_succ {x : Nat} {xs : List Int} {k z : Nat} (hk : k < xs.length) (hz : xs.getD k 0 = (z : Int)) :
    crcs x (nats (xs.take (k + 1))) = c4 (c4 (crcs x (nats (xs.take k)) ^^^ z)) := by
  rw [nats_succ hk hz, crcs_append]
  exact (cbyte_eq _ _).symm

def crcBlk (x : Nat) : Obj := .cells #[.int .u32 (x : Int)] 43 (0, 0)
theorem half_lt : ∀ i, i < 16 → half.getD i 0 < 4294967296 := by decide

set_option maxHeartbeats 1000000 in
theorem crcWrite (p x len cap : Nat) (a0 : Option Addr) (xs : List Int) (w : World) (hp : w.heap[p]? = some (crcBlk x)) (hx : x < 4294967296) (hs : SlAt .u8 w a0 len xs)
    (hlen : len ≤ 9223372036854775807) (hr : Bytes xs) (hne : ∀ b off, 0 < len → a0 = some ⟨b, off, none⟩ → b ≠ p) :
    Calls Try.prog 9 #[.pointer (some ⟨p, 0, none⟩), .slice a0 len cap] w fun e w' =>
      e = .returned (.tuple #[.int .i64 len, .nilIface]) ∧ w'.heap[p]? = some (crcBlk (crcs x (nats xs))) ∧ Kept (· = p) w w' := by
  have hpw := lt_of_blk hp
  have hzl : xs.length = len := hs.1
  go_enter Try.func9, Try.ntmps9
  go_wp2
  go_loopw [12] (fun i wr => ∃ k : Nat, k ≤ len ∧ i = .int .i64 k ∧ wr.heap[p]? = some (crcBlk (crcs x (nats (xs.take k)))) ∧ Kept (· = p) w wr ∧ (∀ j, j < 16 → wr.cell? ⟨w.heap.size, j, none⟩ = some (.int .u32 (half.getD j 0 : Nat))))
     (fun i _ => len - (intOf i).toNat)
  case atStart =>
    refine ⟨0, Nat.zero_le _, rfl, blk_alloc hp _, (Kept.refl _ _).alloc _, ?_⟩
    intro j hj
    rw [blk_cell (blk_new _ _)]
    rcases j with _ | _ | _ | _ | _ | _ | _ | _ | _ | _ | _ | _ | _ | _ | _ | _ | j <;> first | rfl | omega
  case round =>
    obtain ⟨k, hk, rfl, hpr, hkr, hhr⟩ := hrel
    have hyb : crcs x (nats (xs.take k)) < 4294967296 := crcs_lt _ hx ((hr.take k).nats)
    obtain ⟨y, hy⟩ : ∃ y, y = crcs x (nats (xs.take k)) := ⟨_, rfl⟩
    rw [← hy] at hpr hyb
    have hp0 : wr.cell? ⟨p, 0, none⟩ = some (.int .u32 (y : Int)) := blk_cell hpr 0
    have hpf : wr.frozen? ⟨p, 0, none⟩ = false := blk_free hpr 0
    have HY := Lib.hid hy
    have HP := Lib.hid hpr
    clear hy hpr
    by_cases hlt' : k < len
    · obtain ⟨z, hzb, hz1⟩ := hr.at (k := k) (by omega)
      obtain ⟨b, off, rfl, hc⟩ := hs.2.resolve_left (by omega)
      have hcell : wr.cell? ⟨b, off + k, none⟩ = some (.int .u8 (z : Int)) := hkr.cell (by rw [hc k hlt', hz1]) (hne b off (by omega) rfl)
      have HZ := Lib.hid hz1
      have HS := crcs_succ (x := x) (xs := xs) (k := k) (by omega) hz1
      obtain ⟨y1, h1⟩ : ∃ y1, y1 = y ^^^ z := ⟨_, rfl⟩
      have hb1 : y1 < 4294967296 := by rw [h1]; exact Nat.xor_lt_two_pow (n := 32) hyb (by omega)
      have e1 : bits BinOp.xor IntKind.u32 (y : Int) (z : Int) = (y1 : Int) := by rw [h1]; exact u32_xor_nat _ _ hyb (by omega)
      rw [← HY.out, ← h1] at HS
      clear h1 hz1 hc hs
      have hh1 := hhr (y1 % 16) (by omega)
      obtain ⟨v1, hv1⟩ : ∃ v, v = half.getD (y1 % 16) 0 := ⟨_, rfl⟩
      have hvb1 : v1 < 4294967296 := by rw [hv1]; exact half_lt _ (by omega)
      rw [← hv1] at hh1
      have e2 : bits BinOp.and IntKind.u32 (y1 : Int) 15 = ((y1 % 16 : Nat) : Int) := by rw [show (15 : Int) = ((15 : Nat) : Int) from rfl, u32_and_nat _ _ hb1 (by omega), nat_mask4]
      obtain ⟨y2, h2⟩ : ∃ y2, y2 = c4 y1 := ⟨_, rfl⟩
      have hb2 : y2 < 4294967296 := by rw [h2]; exact c4_lt hb1
      have e3 : bits BinOp.xor IntKind.u32 ((y1 : Int) / 16) (v1 : Int) = (y2 : Int) := by
        rw [h2, hv1, show ((y1 : Int) / 16) = ((y1 / 16 : Nat) : Int) by omega]; exact u32_xor_nat _ _ (by omega) (half_lt _ (by omega))
      rw [← h2] at HS
      clear h2 hv1
      have hh2 := hhr (y2 % 16) (by omega)
      obtain ⟨v2, hv2⟩ : ∃ v, v = half.getD (y2 % 16) 0 := ⟨_, rfl⟩
      have hvb2 : v2 < 4294967296 := by rw [hv2]; exact half_lt _ (by omega)
      rw [← hv2] at hh2
      have e4 : bits BinOp.and IntKind.u32 (y2 : Int) 15 = ((y2 % 16 : Nat) : Int) := by rw [show (15 : Int) = ((15 : Nat) : Int) from rfl, u32_and_nat _ _ hb2 (by omega), nat_mask4]
      obtain ⟨y3, h3⟩ : ∃ y3, y3 = c4 y2 := ⟨_, rfl⟩
      have e5 : bits BinOp.xor IntKind.u32 ((y2 : Int) / 16) (v2 : Int) = (y3 : Int) := by
        rw [h3, hv2, show ((y2 : Int) / 16) = ((y2 / 16 : Nat) : Int) by omega]; exact u32_xor_nat _ _ (by omega) (half_lt _ (by omega))
      rw [← h3] at HS
      clear h3 hv2
      have HH := Lib.hid hhr
      have HS := Lib.hid HS
      clear hhr
      have hpn : ¬ w.heap.size = p := by omega
      have hpn' : ¬ p = w.heap.size := by omega
      go_wp2
      go_region
      go_wp2
      go_region
      go_wp2
      go_roundw
      case rel =>
        refine ⟨k + 1, by omega, by go_num, ?_, ?_, ?_⟩
        · rw [HS.out]; exact blk_set (blk_set (blk_set HP.out 0 _) 0 _) 0 _
        · exact (((hkr.setCell (.inl rfl) _).setCell (.inl rfl) _).drew.setCell (.inl rfl) _).drew
        · intro j hj
          exact cell_set_other (cell_set_other (cell_set_other (HH.out j hj) hpn _) hpn _) hpn _
      case measure => simp [intOf]; omega
    · obtain rfl : k = len := by omega
      have hxs : xs.take k = xs := List.take_of_length_le (by omega)
      go_wp2
      go_ret2
      exact ⟨rfl, by rw [HP.out, HY.out, hxs], hkr⟩
end Go.Proofs.Ytgeknkpbjokafaa
