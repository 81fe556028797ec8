import Derived.Test.YtlplbjeegkkilaaDoorGq
namespace Go.Gv
open Go Go.RowKit

structure SChange where
  Kind : Int
  Amount : Int
  deriving DecidableEq

def fChange : Fl SChange := ⟨2, by decide, fun x => [.int .i64 x.Kind, .int .i64 x.Amount], fun _ => rfl, fun x v hv => by simp at hv; rcases hv with rfl | rfl <;> rfl⟩

def okChange (x : SChange) : Prop := i64ok x.Kind ∧ i64ok x.Amount

structure SLast where
  Name : List UInt8
  Length : Int
  Ball : Int
  Instep : Int
  Heel : Int
  Pitch : Int
  deriving DecidableEq

def fLast : Fl SLast := ⟨6, by decide, fun x => [.string (bs x.Name), .int .i64 x.Length, .int .i64 x.Ball, .int .i64 x.Instep, .int .i64 x.Heel, .int .i64 x.Pitch], fun _ => rfl, fun x v hv => by simp at hv; rcases hv with rfl | rfl | rfl | rfl | rfl | rfl <;> rfl⟩

def okLast (x : SLast) : Prop := strok x.Name ∧ i64ok x.Length ∧ i64ok x.Ball ∧ i64ok x.Instep ∧ i64ok x.Heel ∧ i64ok x.Pitch

structure Sl00Src where
  code : List Int
  at_ : Int
  seed : Int
  deriving DecidableEq

structure SFoot where
  Length : Int
  Ball : Int
  Instep : Int
  Heel : Int
  deriving DecidableEq

def fFoot : Fl SFoot := ⟨4, by decide, fun x => [.int .i64 x.Length, .int .i64 x.Ball, .int .i64 x.Instep, .int .i64 x.Heel], fun _ => rfl, fun x v hv => by simp at hv; rcases hv with rfl | rfl | rfl | rfl <;> rfl⟩

def okFoot (x : SFoot) : Prop := i64ok x.Length ∧ i64ok x.Ball ∧ i64ok x.Instep ∧ i64ok x.Heel

end Go.Gv
