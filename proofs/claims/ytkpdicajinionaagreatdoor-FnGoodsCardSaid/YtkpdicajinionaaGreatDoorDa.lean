import Derived.Test.YtkpdicajinionaaGreatDoorGq
namespace Go.Gv
open Go Go.RowKit

structure SGood where
  Name : List UInt8
  OnHand : Int
  Reserved : Int
  Least : Int
  deriving DecidableEq

def fGood : Fl SGood := ⟨4, by decide, fun x => [.string (bs x.Name), .int .i64 x.OnHand, .int .i64 x.Reserved, .int .i64 x.Least], fun _ => rfl, fun x v hv => by simp at hv; rcases hv with rfl | rfl | rfl | rfl <;> rfl⟩

def okGood (x : SGood) : Prop := strok x.Name ∧ i64ok x.OnHand ∧ i64ok x.Reserved ∧ i64ok x.Least

structure STake where
  Name : List UInt8
  Many : Int
  deriving DecidableEq

def fTake : Fl STake := ⟨2, by decide, fun x => [.string (bs x.Name), .int .i64 x.Many], fun _ => rfl, fun x v hv => by simp at hv; rcases hv with rfl | rfl <;> rfl⟩

def okTake (x : STake) : Prop := strok x.Name ∧ i64ok x.Many

structure Sl00Src where
  code : List Int
  at_ : Int
  seed : Int
  deriving DecidableEq

end Go.Gv
