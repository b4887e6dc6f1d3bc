/- A register told: Register. -/
import Derived.Test.YtomcjdonacckfaaKnown
namespace Go.Proofs.Ytomcjdonacckfaa
open Go.RowKit
set_option linter.unusedVariables false
set_option linter.unusedSimpArgs false
def Dec.reg (d : Dec) (i : Nat) : List Int := if i < 256 then [d.l.getD (3 * i) 0, d.l.getD (3 * i + 1) 0, d.l.getD (3 * i + 2) 0] else [0, 0, 0]
set_option maxRecDepth 100000 in
set_option maxHeartbeats 8000000 in
theorem register_any (G : Nat → Prop) (d : Dec) (W : World) (a i : Nat) (hd : DOwn G W a d) (hi : i < 9223372036854775808) :
    Calls Try.prog 22 #[.pointer (some ⟨a, 0, none⟩), .int .i64 i] W fun e w' => e = .returned (.tuple #[triL (d.reg i), .bool (decide (i < 256))]) ∧ Kept (fun _ => False) W w' := by
  obtain ⟨pv, nv, hb, -⟩ := hd
  obtain ⟨q, hq⟩ : ∃ q, W.heap.size = q := ⟨_, rfl⟩
  obtain ⟨Wa, hWa⟩ : ∃ Wa, W.alloc (.cells #[.int .u8 0, .int .u8 0, .int .u8 0] 23) = Wa := ⟨_, rfl⟩
  have hka : Kept (fun _ => False) W Wa := by rw [← hWa]; exact (Kept.refl _ _).alloc _
  have hqb : Wa.heap[q]? = some (.cells #[.int .u8 0, .int .u8 0, .int .u8 0] 23 (0, 0)) := by rw [← hWa]; exact blk_at W _ hq.symm
  have g0 : decide ((i : Int) < 0) = false := decide_eq_false (by omega)
  have hba := hb.kept hka id
  by_cases h : i < 256
  · have g1 : decide ((256 : Int) ≤ (i : Int)) = false := decide_eq_false (by omega)
    have e1 : d.reg i = [d.l.getD (3 * i) 0, d.l.getD (3 * i + 1) 0, d.l.getD (3 * i + 2) 0] := by unfold Dec.reg; rw [if_pos h]
    obtain ⟨c0, hc0⟩ : ∃ c, d.l.getD (3 * i) 0 = c := ⟨_, rfl⟩
    obtain ⟨c1, hc1⟩ : ∃ c, d.l.getD (3 * i + 1) 0 = c := ⟨_, rfl⟩
    obtain ⟨c2, hc2⟩ : ∃ c, d.l.getD (3 * i + 2) 0 = c := ⟨_, rfl⟩
    rw [hc0, hc1, hc2] at e1
    rw [e1, decide_eq_true h]
    show Calls Try.prog 22 #[.pointer (some ⟨a, 0, none⟩), .int .i64 i] W fun e w' => e = .returned (.tuple #[tri c0 c1 c2, .bool true]) ∧ Kept (fun _ => False) W w'
    have r0 : Wa.cell? ⟨a, 2 + i * 3, none⟩ = some (.int .u8 c0) := by have h9 := (hba.reg (3 * i) (by omega)).1; rw [hc0] at h9; rw [Nat.mul_comm i 3]; exact h9
    have r1 : Wa.cell? ⟨a, 2 + i * 3 + 1, none⟩ = some (.int .u8 c1) := by have h9 := (hba.reg (3 * i + 1) (by omega)).1; rw [hc1] at h9; rw [Nat.mul_comm i 3]; exact h9
    have r2 : Wa.cell? ⟨a, 2 + i * 3 + 2, none⟩ = some (.int .u8 c2) := by have h9 := (hba.reg (3 * i + 2) (by omega)).1; rw [hc2] at h9; rw [Nat.mul_comm i 3]; exact h9
    obtain ⟨V1, V2, V3, f1, f2, f3, ⟨s1, s1'⟩, ⟨s2, s2'⟩, ⟨s3, s3'⟩, hcV, hkV⟩ := store3 hqb (.int .u8 c0) (.int .u8 c1) (.int .u8 c2)
    obtain ⟨⟨z0, -⟩, ⟨z1, -⟩, z2, -⟩ := blk3 hcV
    have kk : (i : Int) < 256 := by omega
    have HK := Lib.hid (hka.trans (hkV.mono fun j _ (hj : j = q) => Or.inr (by omega)))
    clear hb hba hka hqb hcV hkV hc0 hc1 hc2 e1
    go_enter Try.func22, Try.ntmps22
    go_wp2
    refine bodyPost_ret (v := .tuple #[tri c0 c1 c2, .bool true]) (by simp [results, Try.results22, go_sem, tri, z0, z1, z2]) rfl ⟨rfl, HK.out⟩
  · have g1 : decide ((256 : Int) ≤ (i : Int)) = true := decide_eq_true (by omega)
    have e1 : d.reg i = [0, 0, 0] := by unfold Dec.reg; rw [if_neg h]
    rw [e1, decide_eq_false h]
    show Calls Try.prog 22 #[.pointer (some ⟨a, 0, none⟩), .int .i64 i] W fun e w' => e = .returned (.tuple #[tri 0 0 0, .bool false]) ∧ Kept (fun _ => False) W w'
    obtain ⟨V1, V2, V3, f1, f2, f3, ⟨s1, s1'⟩, ⟨s2, s2'⟩, ⟨s3, s3'⟩, hcV, hkV⟩ := store3 hqb (.int .u8 0) (.int .u8 0) (.int .u8 0)
    obtain ⟨⟨z0, -⟩, ⟨z1, -⟩, z2, -⟩ := blk3 hcV
    have HK := Lib.hid (hka.trans (hkV.mono fun j _ (hj : j = q) => Or.inr (by omega)))
    clear hb hba hka hqb hcV hkV e1
    go_enter Try.func22, Try.ntmps22
    go_wp2
    refine bodyPost_ret (v := .tuple #[tri 0 0 0, .bool false]) (by simp [results, Try.results22, go_sem, tri, z0, z1, z2]) rfl ⟨rfl, HK.out⟩
end Go.Proofs.Ytomcjdonacckfaa
