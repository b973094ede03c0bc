/- '==' on two choices. -/
import Derived.Test.YtkcfbacapaonaaaDoorWrJ
namespace Go.Proofs.YtkcfbacapaonaaaDoor
set_option linter.unusedVariables false
set_option linter.unusedSimpArgs false
open Go.RowKit Go.Lib

/-- A choice's cells. -/
def cv (x : Ch) : Array Value := #[.int .i64 x.kind, .int .i64 x.node, .int .i64 x.n, .int .i64 x.id, .int .i64 x.mask, .string ⟨x.m.toArray⟩]
theorem mk_toList (l : List UInt8) : (⟨l.toArray⟩ : ByteArray).toList = l := by rw [ba_toList]
set_option maxRecDepth 100000 in
theorem ch_in (x y : Ch) (k : Nat) (w : World) : (Op.equalIn (k + 2) 61 (.agg (cv x)) (.agg (cv y))).run Tryd.prog w = .ok (decide (x = y)) w := by
  rw [run_equalIn_struct w (k + 1) 61 _ _ (by kernel_rfl) (by kernel_rfl)]
  have hd : decide (x = y) = (x.kind == y.kind && (x.node == y.node && (x.n == y.n && (x.id == y.id && (x.mask == y.mask && x.m == y.m))))) := by
    obtain ⟨a, b, c, d, e, f⟩ := x
    obtain ⟨a', b', c', d', e', f'⟩ := y
    rw [Bool.eq_iff_iff]
    simp
  rw [hd]
  cases h1 : x.kind == y.kind
  · simp [cv, Op.eqFields, part, go_sem, h1]
  cases h2 : x.node == y.node
  · simp [cv, Op.eqFields, part, go_sem, h1, h2]
  cases h3 : x.n == y.n
  · simp [cv, Op.eqFields, part, go_sem, h1, h2, h3]
  cases h4 : x.id == y.id
  · simp [cv, Op.eqFields, part, go_sem, h1, h2, h3, h4]
  cases h5 : x.mask == y.mask
  · simp [cv, Op.eqFields, part, go_sem, h1, h2, h3, h4, h5]
  by_cases h6 : x.m = y.m
  · simp [cv, Op.eqFields, part, go_sem, h1, h2, h3, h4, h5, h6, mk_toList]
  · simp [cv, Op.eqFields, part, go_sem, h1, h2, h3, h4, h5, h6, mk_toList]
theorem ch_eql (x y : Ch) (w : World) : (binOp .eql 61 (.agg (cv x)) (.agg (cv y))).run Tryd.prog w = .ok (.bool (decide (x = y))) w := by
  rw [run_eql_struct w, ch_in x y 9998 w]
  rfl
theorem ch_neq (x y : Ch) (w : World) : (binOp .neq 61 (.agg (cv x)) (.agg (cv y))).run Tryd.prog w = .ok (.bool (!decide (x = y))) w := by
  rw [run_neq_struct w, ch_in x y 9998 w]
  rfl

end Go.Proofs.YtkcfbacapaonaaaDoor
