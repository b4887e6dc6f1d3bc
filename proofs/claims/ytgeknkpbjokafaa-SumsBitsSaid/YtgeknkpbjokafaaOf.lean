/- Of: a sum of parts. -/
import Derived.Test.YtgeknkpbjokafaaRef
namespace Go.Proofs.Ytgeknkpbjokafaa
open Go.RowKit Pl
set_option linter.unusedVariables false
/-- A part: a slice of bytes. -/
structure Part where
  a : Option Addr
  len : Nat
  cap : Nat
  xs : List Int
def Part.v (p : Part) : Value := .slice p.a p.len p.cap
/-- Each part reads in w as its bytes, and lies outside block p. -/
def PartsOk (p : Nat) (w : World) (ps : List Part) : Prop := ∀ q ∈ ps, SlAt .u8 w q.a q.len q.xs ∧ q.len ≤ 9223372036854775807 ∧ Bytes q.xs ∧ ∀ b off, 0 < q.len → q.a = some ⟨b, off, none⟩ → b ≠ p
def joined (ps : List Part) : List Nat := ps.flatMap fun q => nats q.xs
theorem m_cw (a : Addr) (w : World) : (method 164 25 (.pointer (some a)) "Write").run Try.prog w = .ok (9, .pointer (some a)) w := by kernel_rfl
theorem m_cs (a : Addr) (w : World) : (method 164 25 (.pointer (some a)) "Sum").run Try.prog w = .ok (11, .pointer (some a)) w := by kernel_rfl
theorem m_aw (a : Addr) (w : World) : (method 164 27 (.pointer (some a)) "Write").run Try.prog w = .ok (10, .pointer (some a)) w := by kernel_rfl
theorem m_as (a : Addr) (w : World) : (method 164 27 (.pointer (some a)) "Sum").run Try.prog w = .ok (13, .pointer (some a)) w := by kernel_rfl
theorem joined_succ {ps : List Part} {k : Nat} {q : Part} (h : ps[k]? = some q) : joined (ps.take (k + 1)) = joined (ps.take k) ++ nats q.xs := by
  obtain ⟨hk, rfl⟩ := List.getElem?_eq_some_iff.1 h
  rw [List.take_succ_eq_append_getElem hk]
  simp only [joined, List.flatMap_append, List.flatMap_singleton]
theorem joined_lt {p : Nat} {w : World} {ps : List Part} (h : PartsOk p w ps) : ∀ b ∈ joined ps, b < 256 := by
  intro b hb
  simp only [joined, List.mem_flatMap] at hb
  obtain ⟨q, hq, hb⟩ := hb
  exact (h q hq).2.2.1.nats b hb
theorem PartsOk.take {p : Nat} {w : World} {ps : List Part} (h : PartsOk p w ps) (k : Nat) : PartsOk p w (ps.take k) := fun q hq => h q (List.mem_of_mem_take hq)
set_option maxHeartbeats 400000 in
theorem crcOf (p x n cap : Nat) (pa : Option Addr) (ps : List Part) (w : World) (hp : w.heap[p]? = some (crcBlk x)) (hx : x < 4294967296) (hn : ps.length = n) (hm : n ≤ 9223372036854775807)
    (hpa : n = 0 ∨ ∃ b off, pa = some ⟨b, off, none⟩ ∧ b ≠ p ∧ ∀ j, j < n → w.cell? ⟨b, off + j, none⟩ = some (ps[j]?.getD ⟨none, 0, 0, []⟩).v) (hps : PartsOk p w ps) :
    Calls Try.prog 15 #[.pointer (some ⟨p, 0, none⟩), .slice pa n cap] w fun e w' =>
      e = .returned (.int .u32 (crcV (crcs x (joined ps)) : Int)) ∧ w'.heap[p]? = some (crcBlk (crcs x (joined ps))) ∧ Kept (· = p) w w' := by
  go_enter Try.func15, Try.ntmps15
  go_wp2
  go_loopw [9] (fun i wr => ∃ k : Nat, k ≤ n ∧ i = .int .i64 k ∧ wr.heap[p]? = some (crcBlk (crcs x (joined (ps.take k)))) ∧ Kept (· = p) w wr)
     (fun i _ => n - (intOf i).toNat)
  case atStart => exact ⟨0, Nat.zero_le _, rfl, hp, Kept.refl _ _⟩
  case round =>
    obtain ⟨k, hk, rfl, hpr, hkr⟩ := hrel
    by_cases hlt' : k < n
    · obtain ⟨b, off, rfl, hbp, hc⟩ := hpa.resolve_left (by omega)
      obtain ⟨q, hq⟩ : ∃ q, ps[k]? = some q := ⟨ps[k], by simp⟩
      have hcell : wr.cell? ⟨b, off + k, none⟩ = some (.slice q.a q.len q.cap) := hkr.cell (by rw [hc k hlt', hq]; rfl) hbp
      have hq1 := hps q (List.mem_of_getElem? hq)
      have hj := joined_succ hq
      have hjb := crcs_lt _ hx (joined_lt (hps.take k))
      have HJ := Lib.hid hj
      have HP := Lib.hid hpr
      clear hq hpr hc hpa hj
      have h1 := m_cw
      have HW := crcWrite p _ q.len q.cap q.a q.xs wr HP.out hjb (hq1.1.kept hkr hq1.2.2.2) hq1.2.1 hq1.2.2.1 hq1.2.2.2
      have HW := Lib.hid HW
      clear hq1
      go_wp2_with (go_at_call 9; refine HW.out.mono ?_; rintro e w' ⟨rfl, hb', hk'⟩; have hb' := Lib.hid hb')
      go_roundw
      case rel => exact ⟨k + 1, by omega, by go_num, by rw [HJ.out, crcs_append]; exact hb'.out, hkr.then hk'⟩
      case measure => simp [intOf]; omega
    · obtain rfl : k = n := by omega
      have hxs : ps.take k = ps := List.take_of_length_le (by omega)
      rw [hxs] at hpr
      have hjb := crcs_lt _ hx (joined_lt hps)
      have h1 := m_cs
      have HP := Lib.hid hpr
      clear hpr
      go_wp2_with (go_at_call 11; refine (crcSum p _ _ HP.out hjb).mono ?_; rintro e w' ⟨rfl, rfl⟩)
      go_ret
      exact ⟨rfl, HP.out, hkr⟩
set_option maxHeartbeats 400000 in
theorem adlerOf (p n cap : Nat) (x : Nat × Nat) (pa : Option Addr) (ps : List Part) (w : World) (hp : w.heap[p]? = some (adlBlk x)) (hx1 : x.1 < 65521) (hx2 : x.2 < 65521) (hn : ps.length = n) (hm : n ≤ 9223372036854775807)
    (hpa : n = 0 ∨ ∃ b off, pa = some ⟨b, off, none⟩ ∧ b ≠ p ∧ ∀ j, j < n → w.cell? ⟨b, off + j, none⟩ = some (ps[j]?.getD ⟨none, 0, 0, []⟩).v) (hps : PartsOk p w ps) :
    Calls Try.prog 16 #[.pointer (some ⟨p, 0, none⟩), .slice pa n cap] w fun e w' =>
      e = .returned (.int .u32 (adlV (adls x (joined ps)) : Int)) ∧ w'.heap[p]? = some (adlBlk (adls x (joined ps))) ∧ Kept (· = p) w w' := by
  go_enter Try.func16, Try.ntmps16
  go_wp2
  go_loopw [9] (fun i wr => ∃ k : Nat, k ≤ n ∧ i = .int .i64 k ∧ wr.heap[p]? = some (adlBlk (adls x (joined (ps.take k)))) ∧ Kept (· = p) w wr)
     (fun i _ => n - (intOf i).toNat)
  case atStart => exact ⟨0, Nat.zero_le _, rfl, hp, Kept.refl _ _⟩
  case round =>
    obtain ⟨k, hk, rfl, hpr, hkr⟩ := hrel
    by_cases hlt' : k < n
    · obtain ⟨b, off, rfl, hbp, hc⟩ := hpa.resolve_left (by omega)
      obtain ⟨q, hq⟩ : ∃ q, ps[k]? = some q := ⟨ps[k], by simp⟩
      have hcell : wr.cell? ⟨b, off + k, none⟩ = some (.slice q.a q.len q.cap) := hkr.cell (by rw [hc k hlt', hq]; rfl) hbp
      have hq1 := hps q (List.mem_of_getElem? hq)
      have hj := joined_succ hq
      have hjb := adls_lt (joined (ps.take k)) hx1 hx2
      have HJ := Lib.hid hj
      have HP := Lib.hid hpr
      clear hq hpr hc hpa hj
      have h1 := m_aw
      have HW := adlerWrite p q.len q.cap _ q.a q.xs wr HP.out hjb.1 hjb.2 (hq1.1.kept hkr hq1.2.2.2) hq1.2.1 hq1.2.2.1 hq1.2.2.2
      have HW := Lib.hid HW
      clear hq1
      go_wp2_with (go_at_call 10; refine HW.out.mono ?_; rintro e w' ⟨rfl, hb', hk'⟩; have hb' := Lib.hid hb')
      go_roundw
      case rel => exact ⟨k + 1, by omega, by go_num, by rw [HJ.out, adls_append]; exact hb'.out, hkr.then hk'⟩
      case measure => simp [intOf]; omega
    · obtain rfl : k = n := by omega
      have hxs : ps.take k = ps := List.take_of_length_le (by omega)
      rw [hxs] at hpr
      have hjb := adls_lt (joined ps) hx1 hx2
      have h1 := m_as
      have HP := Lib.hid hpr
      clear hpr
      go_wp2_with (go_at_call 13; refine (adlerSum p _ _ HP.out hjb.1 hjb.2).mono ?_; rintro e w' ⟨rfl, m, rfl⟩)
      go_ret
      exact ⟨rfl, HP.out, hkr.drewN _⟩
end Go.Proofs.Ytgeknkpbjokafaa
