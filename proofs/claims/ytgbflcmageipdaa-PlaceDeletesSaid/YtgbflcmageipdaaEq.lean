/- Two places held against one another. -/
import Derived.Test.YtgbflcmageipdaaRow
namespace Go.Proofs.Ytgbflcmageipdaa
open Go.RowKit
set_option linter.unusedVariables false
set_option linter.unusedSimpArgs false
theorem eqF_step {P : Program} {w : World} {d : Nat} {xs ys : Array Value} {f : Field} {fs : List Field} {a b : Value} {r s : Bool} (hn : f.name ≠ "_") (hx : (part f.type xs f.offset).run P w = .ok a w) (hy : (part f.type ys f.offset).run P w = .ok b w)
    (he : (Op.equalIn d f.type a b).run P w = .ok r w) (hr : (Op.eqFields d xs ys fs).run P w = .ok s w) : (Op.eqFields d xs ys (f :: fs)).run P w = .ok (r && s) w := by
  simp only [Op.eqFields, hn, ne_eq, not_false_eq_true, if_true, Sem.run_bind, hx, hy, he, Result.andThen_ok]
  cases r
  · simp
  · simp only [Bool.not_true, Bool.false_eq_true, if_false, hr, Bool.true_and]
def eqB (p q : Pl) : Bool := p.im == q.im && (p.id == q.id && (p.alt == q.alt && (p.line == q.line && (p.col == q.col && (p.rows == q.rows && (p.cols == q.cols && (p.x == q.x && (p.y == q.y && (p.w == q.w && (p.h == q.h && (p.dx == q.dx && (p.dy == q.dy && (p.z == q.z && true)))))))))))))
theorem eqB_self (p : Pl) : eqB p p = true := by unfold eqB; simp
theorem eqIn_pl (p q : Pl) (w : World) : (Op.equalIn 10000 34 p.val q.val).run Try.prog w = .ok (eqB p q) w := by
  have h3 : ∀ (n : Nat) (a b : Int) (w : World), (Op.equalIn (n + 1) 3 (.int .i64 a) (.int .i64 b)).run Try.prog w = .ok (a == b) w := fun n a b w => run_equalIn_int w n 3 .i64 .i64 a b Try.underlying3
  have h2 : ∀ (n : Nat) (a b : Int) (w : World), (Op.equalIn (n + 1) 2 (.int .i64 a) (.int .i64 b)).run Try.prog w = .ok (a == b) w := fun n a b w => run_equalIn_int w n 2 .i64 .i64 a b Try.underlying2
  have h4 : ∀ (n : Nat) (a b : Bool) (w : World), (Op.equalIn (n + 1) 4 (.bool a) (.bool b)).run Try.prog w = .ok (a == b) w := fun n a b w => run_equalIn_bool' w n 4 a b Try.underlying4
  unfold Pl.val
  rw [show (10000 : Nat) = 9999 + 1 from rfl, run_equalIn_struct _ _ _ _ _ (by kernel_rfl) (by kernel_rfl)]
  obtain ⟨fs, hfs⟩ : ∃ fs, (Try.prog.fieldsOf 34).toList = fs := ⟨_, rfl⟩
  unfold Program.fieldsOf at hfs
  rw [Try.underlying34] at hfs
  simp only at hfs
  unfold Program.fieldsOf
  rw [Try.underlying34]
  simp only
  unfold eqB
  refine eqF_step (by decide) (by kernel_rfl) (by kernel_rfl) (h3 9998 p.im q.im w) ?_
  refine eqF_step (by decide) (by kernel_rfl) (by kernel_rfl) (h3 9998 p.id q.id w) ?_
  refine eqF_step (by decide) (by kernel_rfl) (by kernel_rfl) (h4 9998 p.alt q.alt w) ?_
  refine eqF_step (by decide) (by kernel_rfl) (by kernel_rfl) (h2 9998 p.line q.line w) ?_
  refine eqF_step (by decide) (by kernel_rfl) (by kernel_rfl) (h3 9998 p.col q.col w) ?_
  refine eqF_step (by decide) (by kernel_rfl) (by kernel_rfl) (h3 9998 p.rows q.rows w) ?_
  refine eqF_step (by decide) (by kernel_rfl) (by kernel_rfl) (h3 9998 p.cols q.cols w) ?_
  refine eqF_step (by decide) (by kernel_rfl) (by kernel_rfl) (h3 9998 p.x q.x w) ?_
  refine eqF_step (by decide) (by kernel_rfl) (by kernel_rfl) (h3 9998 p.y q.y w) ?_
  refine eqF_step (by decide) (by kernel_rfl) (by kernel_rfl) (h3 9998 p.w q.w w) ?_
  refine eqF_step (by decide) (by kernel_rfl) (by kernel_rfl) (h3 9998 p.h q.h w) ?_
  refine eqF_step (by decide) (by kernel_rfl) (by kernel_rfl) (h3 9998 p.dx q.dx w) ?_
  refine eqF_step (by decide) (by kernel_rfl) (by kernel_rfl) (h3 9998 p.dy q.dy w) ?_
  refine eqF_step (by decide) (by kernel_rfl) (by kernel_rfl) (h3 9998 p.z q.z w) ?_
  rfl
theorem run_eqPl (p q : Pl) (w : World) : (binOp .eql 34 p.val q.val).run Try.prog w = .ok (.bool (eqB p q)) w := by
  have h := eqIn_pl p q w
  unfold Pl.val at h ⊢
  rw [run_eql_struct, h]; rfl
theorem run_nePl (p q : Pl) (w : World) : (binOp .neq 34 p.val q.val).run Try.prog w = .ok (.bool (!(eqB p q))) w := by
  have h := eqIn_pl p q w
  unfold Pl.val at h ⊢
  rw [run_neq_struct, h]; rfl
end Go.Proofs.Ytgbflcmageipdaa
