/- Colours, attributes held against one another. -/
import Derived.Test.YtdjgmhbfohbenaaColr
namespace Go.Proofs.Ytdjgmhbfohbenaa
open Go.RowKit Pl
theorem size5a {w : World} : (sizeOf 5).run Try.prog w = .ok 1 w := by kernel_rfl
theorem part5a (i : Nat) (x0 x1 x2 : Value) (w : World) (hi : i < 3) : (part 5 #[x0, x1, x2] i).run Try.prog w = .ok (#[x0, x1, x2].getD i undef) w := by
  rcases i with _ | _ | _ | i <;> first | omega | kernel_rfl
theorem part3a (i : Nat) (x0 x1 x2 : Value) (w : World) (hi : i < 3) : (part 3 #[x0, x1, x2] i).run Try.prog w = .ok (#[x0, x1, x2].getD i undef) w := by
  rcases i with _ | _ | _ | i <;> first | omega | kernel_rfl
theorem eqIn3 (d t : Nat) (ht : Try.prog.underlying t = some (.array 3 5)) (a0 a1 a2 b0 b1 b2 : Int) (w : World) : (Op.equalIn (d + 3) t (.agg #[.int .u8 a0, .int .u8 a1, .int .u8 a2]) (.agg #[.int .u8 b0, .int .u8 b1, .int .u8 b2])).run Try.prog w = .ok (a0 == b0 && (a1 == b1 && a2 == b2)) w := by
  have h5 : ∀ (n : Nat) (a b : Int) (w : World), (Op.equalIn (n + 1) 5 (.int .u8 a) (.int .u8 b)).run Try.prog w = .ok (a == b) w := fun n a b w => run_equalIn_int w n 5 .u8 .u8 a b Try.underlying5
  unfold Op.equalIn
  have hp := part5a
  cases h0 : (a0 == b0) <;> cases h1 : (a1 == b1) <;> cases h2 : (a2 == b2) <;>
  simp [run_underlying ht, List.range', hp, h5, h0, h1, h2]
/-- Two colours held against one another. -/
theorem run_eqRgb (a0 a1 a2 b0 b1 b2 : Int) (w : World) : (binOp .eql 96 (.agg #[.int .u8 a0, .int .u8 a1, .int .u8 a2]) (.agg #[.int .u8 b0, .int .u8 b1, .int .u8 b2])).run Try.prog w = .ok (.bool (a0 == b0 && (a1 == b1 && a2 == b2))) w := by
  rw [run_eql_struct, eqIn3 9997 96 Try.underlying96]; rfl
theorem run_neRgb (a0 a1 a2 b0 b1 b2 : Int) (w : World) : (binOp .neq 96 (.agg #[.int .u8 a0, .int .u8 a1, .int .u8 a2]) (.agg #[.int .u8 b0, .int .u8 b1, .int .u8 b2])).run Try.prog w = .ok (.bool (!(a0 == b0 && (a1 == b1 && a2 == b2)))) w := by
  rw [run_neq_struct, eqIn3 9997 96 Try.underlying96]; rfl
/-- Two attributes held against one another. -/
theorem run_eqLook (a b : Look) (w : World) : (binOp .eql 54 (.agg #[.int .i64 a.fg, .int .i64 a.bg, .int .i64 a.fl]) (.agg #[.int .i64 b.fg, .int .i64 b.bg, .int .i64 b.fl])).run Try.prog w = .ok (.bool (a.fg == b.fg && (a.bg == b.bg && a.fl == b.fl))) w := by
  have h3 : ∀ (n : Nat) (a b : Int) (w : World), (Op.equalIn (n + 1) 3 (.int .i64 a) (.int .i64 b)).run Try.prog w = .ok (a == b) w := fun n a b w => run_equalIn_int w n 3 .i64 .i64 a b Try.underlying3
  rw [run_eql_struct]
  rw [show (10000 : Nat) = 9999 + 1 from rfl, run_equalIn_struct _ _ _ _ _ (by kernel_rfl) (by kernel_rfl)]
  have hp := part3a
  have hF : Try.prog.fieldsOf 54 = #[{ name := "Fg", type := 3, offset := 0, embedded := false, tag := "", pkgPath := "", byteOffset := 0 }, { name := "Bg", type := 3, offset := 1, embedded := false, tag := "", pkgPath := "", byteOffset := 8 }, { name := "Flags", type := 3, offset := 2, embedded := false, tag := "", pkgPath := "", byteOffset := 16 }] := by unfold Program.fieldsOf; rw [Try.underlying54]
  rw [hF]
  cases h0 : (a.fg == b.fg) <;> cases h1 : (a.bg == b.bg) <;> cases h2 : (a.fl == b.fl) <;>
  simp [Op.eqFields, hp, h3, h0, h1, h2]
end Go.Proofs.Ytdjgmhbfohbenaa
