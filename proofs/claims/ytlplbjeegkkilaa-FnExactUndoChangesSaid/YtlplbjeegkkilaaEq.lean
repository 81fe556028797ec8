/- Two structs are alike if their data are. -/
import Derived.Test.YtlplbjeegkkilaaTi
import Derived.Test.YtlplbjeegkkilaaDa
namespace Go.Proofs.Ytlplbjeegkkilaa
open Go Go.Gv Go.RowKit

theorem eqs_42 (x y : SChange) (w : World) : (Op.equalIn 10000 42 (.agg (fChange.leaf x).toArray) (.agg (fChange.leaf y).toArray)).run Try.prog w = .ok (decide (x = y)) w := by
  rw [show (10000 : Nat) = 9999 + 1 from rfl, run_equalIn_struct _ _ _ _ _ (by rw [fieldsOf_of Try.underlying42]; exact Try.underlying42) (by kernel_rfl), fieldsOf_of Try.underlying42]
  simp [Op.eqFields, fChange, part, isAgg, Sem.run_bind, run_underlying Try.underlying2, run_equalIn_int w 9998 2 .i64 .i64 _ _ Try.underlying2]
  cases x; cases y; simp only [SChange.mk.injEq]
  repeat' split
  all_goals simp_all

end Go.Proofs.Ytlplbjeegkkilaa
