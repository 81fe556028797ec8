import Derived.Test.YtkjjjbfpecmieaaDoorGq
namespace Go.Gv
open Go Go.RowKit

structure SStyle where
  Upper : List UInt8
  Color : List UInt8
  Lining : List UInt8
  Sole : List UInt8
  Thick : Int
  Heel : Int
  Eyelets : Int
  Density : Int
  Double : Bool
  deriving DecidableEq

def fStyle : Fl SStyle := ⟨9, by decide, fun x => [.string (bs x.Upper), .string (bs x.Color), .string (bs x.Lining), .string (bs x.Sole), .int .i64 x.Thick, .int .i64 x.Heel, .int .i64 x.Eyelets, .int .i64 x.Density, .bool x.Double], fun _ => rfl, fun x v hv => by simp at hv; rcases hv with rfl | rfl | rfl | rfl | rfl | rfl | rfl | rfl | rfl <;> rfl⟩

def okStyle (x : SStyle) : Prop := strok x.Upper ∧ strok x.Color ∧ strok x.Lining ∧ strok x.Sole ∧ i64ok x.Thick ∧ i64ok x.Heel ∧ i64ok x.Eyelets ∧ i64ok x.Density ∧ True

structure STrouble where
  Clause : Int
  Code : Int
  deriving DecidableEq

def fTrouble : Fl STrouble := ⟨2, by decide, fun x => [.int .i64 x.Clause, .int .i64 x.Code], fun _ => rfl, fun x v hv => by simp at hv; rcases hv with rfl | rfl <;> rfl⟩

def okTrouble (x : STrouble) : Prop := i64ok x.Clause ∧ i64ok x.Code

end Go.Gv
