import Derived.Test.YtoljnpoiclklpaaGq
namespace Go.Gv

structure SFraction where
  Num : Int
  Den : Int
  deriving DecidableEq

def fFraction : Fl SFraction := ⟨2, by decide, fun x => [.int .i64 x.Num, .int .i64 x.Den], fun _ => rfl, fun x v hv => by simp at hv; rcases hv with rfl | rfl <;> rfl⟩

def okFraction (x : SFraction) : Prop := i64ok x.Num ∧ i64ok x.Den

structure Sl00Src where
  code : List Int
  at_ : Int
  seed : Int
  deriving DecidableEq

end Go.Gv
