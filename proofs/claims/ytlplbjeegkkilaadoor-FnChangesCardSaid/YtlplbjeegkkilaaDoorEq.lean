/- Two structs are alike if their data are. -/
import Derived.Test.YtlplbjeegkkilaaDoorTi
import Derived.Test.YtlplbjeegkkilaaDoorDa
namespace Go.Proofs.YtlplbjeegkkilaaDoor
open Go Go.Gv Go.RowKit

theorem eqs_25 (x y : SChange) (w : World) : (Op.equalIn 10000 25 (.agg (fChange.leaf x).toArray) (.agg (fChange.leaf y).toArray)).run Tryd.prog w = .ok (decide (x = y)) w := by
  rw [show (10000 : Nat) = 9999 + 1 from rfl, run_equalIn_struct _ _ _ _ _ (by rw [fieldsOf_of Tryd.underlying25]; exact Tryd.underlying25) (by kernel_rfl), fieldsOf_of Tryd.underlying25]
  simp [Op.eqFields, fChange, part, isAgg, Sem.run_bind, run_underlying Tryd.underlying2, run_equalIn_int w 9998 2 .i64 .i64 _ _ Tryd.underlying2]
  cases x; cases y; simp only [SChange.mk.injEq]
  repeat' split
  all_goals simp_all

theorem eqs_35 (x y : SLast) (w : World) : (Op.equalIn 10000 35 (.agg (fLast.leaf x).toArray) (.agg (fLast.leaf y).toArray)).run Tryd.prog w = .ok (decide (x = y)) w := by
  rw [show (10000 : Nat) = 9999 + 1 from rfl, run_equalIn_struct _ _ _ _ _ (by rw [fieldsOf_of Tryd.underlying35]; exact Tryd.underlying35) (by kernel_rfl), fieldsOf_of Tryd.underlying35]
  simp [Op.eqFields, fLast, part, isAgg, Sem.run_bind, run_underlying Tryd.underlying9, run_equalIn_string w 9998 9 _ _ Tryd.underlying9, bs_toList, run_underlying Tryd.underlying2, run_equalIn_int w 9998 2 .i64 .i64 _ _ Tryd.underlying2]
  cases x; cases y; simp only [SLast.mk.injEq]
  repeat' split
  all_goals simp_all

end Go.Proofs.YtlplbjeegkkilaaDoor
