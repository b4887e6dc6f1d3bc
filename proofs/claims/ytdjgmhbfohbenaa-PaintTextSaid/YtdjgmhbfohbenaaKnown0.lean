/- Matrices by their numbers; colours held against one another. -/
import Derived.Test.YtdjgmhbfohbenaaFrom
import Derived.Test.YtdjgmhbfohbenaaStr
namespace Go.Proofs.Ytdjgmhbfohbenaa
open Go.RowKit 
set_option linter.unusedVariables false
set_option linter.unusedSimpArgs false
/-- A matrix by its numbers: two sides, the bytes. -/
structure Mx where
  w : Int
  h : Int
  p : List Int
/-- The value v is, in w, the matrix m; its bytes lie in blocks from B on. -/
def IsMx (B : Nat) (w : World) (v : Value) (m : Mx) : Prop :=
  ∃ a n cap, v = mat m.w m.h a n cap ∧ SlAt .u8 w a n m.p ∧ n ≤ cap ∧ cap ≤ 9223372036854775807 ∧ (a = none → n = 0 ∧ cap = 0) ∧ ∀ b off, 0 < n → a = some ⟨b, off, none⟩ → B ≤ b
theorem isMx0 (B : Nat) (w : World) : IsMx B w mat0 ⟨0, 0, []⟩ := ⟨none, 0, 0, rfl, ⟨rfl, .inl rfl⟩, by omega, by omega, fun _ => ⟨rfl, rfl⟩, fun _ _ h => absurd h (by omega)⟩
theorem IsMx.of_own {B : Nat} {w : World} {W H : Int} {g n cap : Nat} {xs : List Int} (h : Own .u8 5 w (.slice (some ⟨g, 0, none⟩) n cap) xs) (hg : B ≤ g) : IsMx B w (mat W H (some ⟨g, 0, none⟩) n cap) ⟨W, H, xs⟩ := by
  have hc : cap ≤ 9223372036854775807 := by
    obtain ⟨a, c, hv, -, -, hm, -⟩ := h.shape
    cases hv; simpa [maxLen] using hm
  exact ⟨_, _, _, rfl, h.slAt, h.at.2.1, hc, (fun h => by cases h), (fun b off _ h => by cases h; exact hg)⟩
theorem IsMx.kept {B : Nat} {S : Nat → Prop} {w w' : World} {v : Value} {m : Mx} (h : IsMx B w v m) (hk : Kept S w w') (hn : ∀ b, B ≤ b → ¬ S b) : IsMx B w' v m := by
  obtain ⟨a, n, cap, h1, h2, h3, h4, h5, h6⟩ := h
  exact ⟨a, n, cap, h1, h2.kept hk (fun b off h0 h => hn b (h6 b off h0 h)), h3, h4, h5, h6⟩
theorem size5 {w : World} : (sizeOf 5).run Try.prog w = .ok 1 w := by kernel_rfl
theorem part5 (i : Nat) (x0 x1 x2 x3 : Value) (w : World) (hi : i < 4) : (part 5 #[x0, x1, x2, x3] i).run Try.prog w = .ok (#[x0, x1, x2, x3].getD i undef) w := by
  rcases i with _ | _ | _ | _ | i <;> first | omega | kernel_rfl
theorem eqIn4 (d t : Nat) (ht : Try.prog.underlying t = some (.array 4 5)) (a0 a1 a2 a3 b0 b1 b2 b3 : Int) (w : World) : (Op.equalIn (d + 3) t (.agg #[.int .u8 a0, .int .u8 a1, .int .u8 a2, .int .u8 a3]) (.agg #[.int .u8 b0, .int .u8 b1, .int .u8 b2, .int .u8 b3])).run Try.prog w = .ok (a0 == b0 && (a1 == b1 && (a2 == b2 && a3 == b3))) w := by
  have h5 : ∀ (n : Nat) (a b : Int) (w : World), (Op.equalIn (n + 1) 5 (.int .u8 a) (.int .u8 b)).run Try.prog w = .ok (a == b) w := fun n a b w => run_equalIn_int w n 5 .u8 .u8 a b Try.underlying5
  unfold Op.equalIn
  have hp := part5
  cases h0 : (a0 == b0) <;> cases h1 : (a1 == b1) <;> cases h2 : (a2 == b2) <;> cases h3 : (a3 == b3) <;>
  simp [run_underlying ht, List.range', hp, h5, h0, h1, h2, h3]
/-- Two colours held against one another. -/
theorem run_eqCol (t : Nat) (ht : Try.prog.underlying t = some (.array 4 5)) (a0 a1 a2 a3 b0 b1 b2 b3 : Int) (w : World) : (binOp .eql t (.agg #[.int .u8 a0, .int .u8 a1, .int .u8 a2, .int .u8 a3]) (.agg #[.int .u8 b0, .int .u8 b1, .int .u8 b2, .int .u8 b3])).run Try.prog w = .ok (.bool (a0 == b0 && (a1 == b1 && (a2 == b2 && a3 == b3)))) w := by
  rw [run_eql_struct, eqIn4 9997 t ht]; rfl
theorem run_neCol (t : Nat) (ht : Try.prog.underlying t = some (.array 4 5)) (a0 a1 a2 a3 b0 b1 b2 b3 : Int) (w : World) : (binOp .neq t (.agg #[.int .u8 a0, .int .u8 a1, .int .u8 a2, .int .u8 a3]) (.agg #[.int .u8 b0, .int .u8 b1, .int .u8 b2, .int .u8 b3])).run Try.prog w = .ok (.bool (!(a0 == b0 && (a1 == b1 && (a2 == b2 && a3 == b3))))) w := by
  rw [run_neq_struct, eqIn4 9997 t ht]; rfl
theorem int_of_wf {n : Int} (h : (Lit.int .i64 n).wf = true) : -9223372036854775808 ≤ n ∧ n ≤ 9223372036854775807 := by
  simp [Lit.wf, IntKind.min, IntKind.max, IntKind.signed, IntKind.bits] at h
  omega
theorem byte_of_wf {n : Int} (h : (Lit.int .u8 n).wf = true) : 0 ≤ n ∧ n ≤ 255 := by
  simp [Lit.wf, IntKind.min, IntKind.max, IntKind.signed, IntKind.bits] at h
  omega
theorem ov_255 (d s : Int) : ov d s 255 = s := by unfold ov; omega
theorem ov_0 (d s : Int) : ov d s 0 = d := by unfold ov; omega
/-- A block of three cells stored into, cell by cell, each world by a name. -/
theorem store3 {w : World} {p : Nat} {x' y' z' : Value} {T : TypeId} (h : w.heap[p]? = some (.cells #[x', y', z'] T (0, 0))) (x y z : Value) :
    ∃ V1 V2 V3, w.setCell ⟨p, 0, none⟩ x = V1 ∧ V1.setCell ⟨p, 1, none⟩ y = V2 ∧ V2.setCell ⟨p, 2, none⟩ z = V3 ∧ (w.cell? ⟨p, 0, none⟩ = some x' ∧ w.frozen? ⟨p, 0, none⟩ = false) ∧ (V1.cell? ⟨p, 1, none⟩ = some y' ∧ V1.frozen? ⟨p, 1, none⟩ = false) ∧
      (V2.cell? ⟨p, 2, none⟩ = some z' ∧ V2.frozen? ⟨p, 2, none⟩ = false) ∧ V3.heap[p]? = some (.cells #[x, y, z] T (0, 0)) ∧ Kept (· = p) w V3 := by
  refine ⟨_, _, _, rfl, rfl, rfl, ⟨blk_cell h 0, blk_free h 0⟩, ⟨?_, ?_⟩, ⟨?_, ?_⟩, ?_, ?_⟩
  · exact blk_cell (blk_set h 0 _) 1
  · exact blk_free (blk_set h 0 _) 1
  · exact blk_cell (blk_set (blk_set h 0 _) 1 _) 2
  · exact blk_free (blk_set (blk_set h 0 _) 1 _) 2
  · exact blk_set (blk_set (blk_set h 0 _) 1 _) 2 _
  · exact (((Kept.refl (fun i => i = p) w).setCell (p := ⟨p, 0, none⟩) (.inl rfl) x).setCell (p := ⟨p, 1, none⟩) (.inl rfl) y).setCell (p := ⟨p, 2, none⟩) (.inl rfl) z
end Go.Proofs.Ytdjgmhbfohbenaa
