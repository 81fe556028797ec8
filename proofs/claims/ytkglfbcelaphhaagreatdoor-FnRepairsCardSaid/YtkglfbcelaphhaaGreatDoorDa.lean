import Derived.Test.YtkglfbcelaphhaaGreatDoorGx
namespace Go.Gv
open Go Go.RowKit

def rowok (l : List Int) : Prop := l.length ≤ 9223372036854775807 ∧ ∀ n ∈ l, i64ok n

structure SRepair where
  Name : List UInt8
  Mends : List Int
  First : List Int
  Price : Int
  Hours : Int
  deriving DecidableEq

def fRepair : Nl SRepair := ⟨5, by decide, fun x => [.val (.string (bs x.Name)), .row x.Mends, .row x.First, .val (.int .i64 x.Price), .val (.int .i64 x.Hours)], fun _ => rfl, fun x v hv => by simp at hv; rcases hv with rfl | rfl | rfl <;> rfl⟩

theorem nest_Repair {w : World} {a : Option Addr} {xs : List SRepair} {i : Int} {x : SRepair} (h : Rd fRepair.ty w a xs) (hx : idx xs i = some x) :
    ∃ a0 c0 a1 c1, (∀ j v, ([.string (bs x.Name), .slice a0 x.Mends.length c0, .slice a1 x.First.length c1, .int .i64 x.Price, .int .i64 x.Hours] : List Value)[j]? = some v → w.cell? (at_ a (i.toNat * 5 + j)) = some v) ∧ Rd fInt.ty w a0 x.Mends ∧ x.Mends.length ≤ c0 ∧ Rd fInt.ty w a1 x.First ∧ x.First.length ≤ c1 := by
  obtain ⟨vs, hl, hc⟩ := Rd.nest h hx
  obtain ⟨_, _, rfl, rfl, _, _, rfl, ⟨a0, c0, rfl, h0, e0⟩, _, _, rfl, ⟨a1, c1, rfl, h1, e1⟩, _, _, rfl, rfl, _, _, rfl, rfl, rfl⟩ := hl
  exact ⟨a0, c0, a1, c1, hc, h0, e0, h1, e1⟩

theorem elem_Repair {w : World} {B : Nat} {L : List Asrt} {e ei : TypeId} {a : Option Addr} {c : Nat} {xs : List SRepair} {i : Int} {x : SRepair} (h : SH w B (aNest fRepair e ei a c xs :: L)) (hx : idx xs i = some x) :
    ∃ a0 c0 a1 c1, SH w B (aOwn fInt ei a0 c0 x.Mends :: aOwn fInt ei a1 c1 x.First :: aHole fRepair e ei a c xs i.toNat [.string (bs x.Name), .slice a0 x.Mends.length c0, .slice a1 x.First.length c1, .int .i64 x.Price, .int .i64 x.Hours] :: L) := by
  obtain ⟨vs, Ix, hf, hS⟩ := SH.elem h hx
  have hl : fRepair.leaf x = [.val (.string (bs x.Name)), .row x.Mends, .row x.First, .val (.int .i64 x.Price), .val (.int .i64 x.Hours)] := rfl
  rw [hl] at hf
  cases hf with | val hf => cases hf with | row hf => cases hf with | row hf => cases hf with | val hf => cases hf with | val hf => cases hf with | nil => exact ⟨_, _, _, _, hS⟩

def okRepair (x : SRepair) : Prop := strok x.Name ∧ rowok x.Mends ∧ rowok x.First ∧ i64ok x.Price ∧ i64ok x.Hours

structure Sl00Src where
  code : List Int
  at_ : Int
  seed : Int
  deriving DecidableEq

end Go.Gv
