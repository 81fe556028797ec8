/- Two structs are alike if their data are. -/
import Derived.Test.YtkpdicajinionaaGreatDoorTi
import Derived.Test.YtkpdicajinionaaGreatDoorDa
namespace Go.Proofs.YtkpdicajinionaaGreatDoor
open Go Go.Gv Go.RowKit

theorem eqs_31 (x y : SGood) (w : World) : (Op.equalIn 10000 31 (.agg (fGood.leaf x).toArray) (.agg (fGood.leaf y).toArray)).run Tryz.prog w = .ok (decide (x = y)) w := by
  rw [show (10000 : Nat) = 9999 + 1 from rfl, run_equalIn_struct _ _ _ _ _ (by rw [fieldsOf_of Tryz.underlying31]; exact Tryz.underlying31) (by kernel_rfl), fieldsOf_of Tryz.underlying31]
  simp [Op.eqFields, fGood, part, isAgg, Sem.run_bind, run_underlying Tryz.underlying9, run_equalIn_string w 9998 9 _ _ Tryz.underlying9, bs_toList, run_underlying Tryz.underlying2, run_equalIn_int w 9998 2 .i64 .i64 _ _ Tryz.underlying2]
  cases x; cases y; simp only [SGood.mk.injEq]
  repeat' split
  all_goals simp_all

end Go.Proofs.YtkpdicajinionaaGreatDoor
