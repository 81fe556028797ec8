import Derived.Test.YtkpdicajinionaaDoorGq
namespace Go.Gv

structure SGood where
  Name : List UInt8
  OnHand : Int
  Reserved : Int
  Least : Int
  deriving DecidableEq

def fGood : Fl SGood := ⟨4, by decide, fun x => [.string (bs x.Name), .int .i64 x.OnHand, .int .i64 x.Reserved, .int .i64 x.Least], fun _ => rfl, fun x v hv => by simp at hv; rcases hv with rfl | rfl | rfl | rfl <;> rfl⟩

def okGood (x : SGood) : Prop := strok x.Name ∧ i64ok x.OnHand ∧ i64ok x.Reserved ∧ i64ok x.Least

end Go.Gv
