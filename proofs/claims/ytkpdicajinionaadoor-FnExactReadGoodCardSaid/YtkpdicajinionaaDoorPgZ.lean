/- Plain laws of stock: one good. -/
import Derived.Test.YtkpdicajinionaaDoorPn
import Derived.Test.YtkpdicajinionaaDoorPr
namespace Go.Gv
open Go Go.RowKit

def inRB (lo hi v : Int) : Bool := decide (lo ≤ v) && decide (v ≤ hi)
def goodB (g : SGood) : Bool := nameB g.Name && (inRB 0 1000000 g.OnHand && (inRB 0 g.OnHand g.Reserved && inRB 0 1000000 g.Least))

theorem p_l23One (n : Nat) (g : SGood) (h : strok g.Name) (hn : 1048576 < n) : m_spec_l23One n g = some (goodB g) := by
  unfold m_spec_l23One m_spec_l23Many goodB inRB
  rw [p_specIsName n _ h hn]
  simp only [p_l00In, Option.bind_some]
  cases nameB g.Name <;> cases (decide (0 ≤ g.OnHand) && decide (g.OnHand ≤ 1000000)) <;> cases (decide (0 ≤ g.Reserved) && decide (g.Reserved ≤ g.OnHand)) <;> rfl

theorem p_validGood (n : Nat) (g : SGood) (h : strok g.Name) (hn : 1048576 < n) : m_impl_validGood n g = some (goodB g) := by
  unfold m_impl_validGood goodB inRB
  rw [p_implIsName n _ h hn]
  simp only [p_within, Option.bind_some]
  cases nameB g.Name <;> cases (decide (0 ≤ g.OnHand) && decide (g.OnHand ≤ 1000000)) <;> cases (decide (0 ≤ g.Reserved) && decide (g.Reserved ≤ g.OnHand)) <;> rfl

end Go.Gv
