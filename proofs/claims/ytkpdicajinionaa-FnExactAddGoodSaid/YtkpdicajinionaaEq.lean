/- Two structs are alike if their data are. -/
import Derived.Test.YtkpdicajinionaaTi
import Derived.Test.YtkpdicajinionaaDa
namespace Go.Proofs.Ytkpdicajinionaa
open Go Go.Gv Go.RowKit

theorem eqs_43 (x y : STake) (w : World) : (Op.equalIn 10000 43 (.agg (fTake.leaf x).toArray) (.agg (fTake.leaf y).toArray)).run Try.prog w = .ok (decide (x = y)) w := by
  rw [show (10000 : Nat) = 9999 + 1 from rfl, run_equalIn_struct _ _ _ _ _ (by rw [fieldsOf_of Try.underlying43]; exact Try.underlying43) (by kernel_rfl), fieldsOf_of Try.underlying43]
  simp [Op.eqFields, fTake, part, isAgg, Sem.run_bind, run_underlying Try.underlying9, run_equalIn_string w 9998 9 _ _ Try.underlying9, bs_toList, run_underlying Try.underlying2, run_equalIn_int w 9998 2 .i64 .i64 _ _ Try.underlying2]
  cases x; cases y; simp only [STake.mk.injEq]
  repeat' split
  all_goals simp_all

theorem eqs_56 (x y : SGood) (w : World) : (Op.equalIn 10000 56 (.agg (fGood.leaf x).toArray) (.agg (fGood.leaf y).toArray)).run Try.prog w = .ok (decide (x = y)) w := by
  rw [show (10000 : Nat) = 9999 + 1 from rfl, run_equalIn_struct _ _ _ _ _ (by rw [fieldsOf_of Try.underlying56]; exact Try.underlying56) (by kernel_rfl), fieldsOf_of Try.underlying56]
  simp [Op.eqFields, fGood, part, isAgg, Sem.run_bind, run_underlying Try.underlying9, run_equalIn_string w 9998 9 _ _ Try.underlying9, bs_toList, run_underlying Try.underlying2, run_equalIn_int w 9998 2 .i64 .i64 _ _ Try.underlying2]
  cases x; cases y; simp only [SGood.mk.injEq]
  repeat' split
  all_goals simp_all

end Go.Proofs.Ytkpdicajinionaa
