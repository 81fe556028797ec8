/- Calls of the library do what their Lean functions say. -/
import Derived.Test.YtkglfbcelaphhaaGreatDoorGg
import Derived.Test.YtkglfbcelaphhaaGreatDoorSh
import Derived.Test.YtkglfbcelaphhaaGreatDoorMh
set_option maxRecDepth 20000
set_option maxHeartbeats 4000000
namespace Go.Proofs.YtkglfbcelaphhaaGreatDoor
open Go Go.Gv Go.RowKit

theorem c_78 (n : Nat) (i_0 base_1 : Int) (w : World) {r : List UInt8} (hm : m_strconv_FormatInt n i_0 base_1 = some r) (hG : GL 2 w) :
    CallV Tryz.prog 78 #[.int .i64 i_0, .int .i64 base_1] w (fun v w' => v = .string (bs r) ∧ Ext w w') := by
  unfold m_strconv_FormatInt at hm
  split at hm
  · rename_i hc
    obtain rfl := Option.some.inj hm
    obtain ⟨h0, h1, rfl⟩ := hc
    refine Calls.mono (Tryz.strconv_FormatInt_10 i_0 h0 h1 w (hG.2 (by decide))) ?_
    rintro e w' ⟨rfl, k, os, rfl⟩
    exact ⟨_, rfl, rfl, Lib.below_grow _ w (Nat.le_refl _) k os⟩
  · cases hm

theorem c_62 (n : Nat) (l_0 : List (List UInt8)) (a0' : Option Addr) (c0' : Nat) (sep_1 : List UInt8) (w : World) {r : List UInt8} (hm : m_strings_Join n l_0 sep_1 = some r) (h0 : Rd fStr.ty w a0' l_0) (hle0 : l_0.length ≤ c0') :
    CallV Tryz.prog 62 #[.slice a0' l_0.length c0', .string (bs sep_1)] w (fun v w' => v = .string (bs r) ∧ Ext w w') := by
  unfold m_strings_Join at hm
  split at hm
  · rename_i hc
    obtain rfl := Option.some.inj hm
    cases hl : l_0 with
    | nil =>
      refine Calls.mono (Tryz.strings_Join_none a0' c0' (bs sep_1) w) ?_
      rintro e w' ⟨rfl, rfl⟩
      exact ⟨_, rfl, rfl, Ext.refl _⟩
    | cons x xs =>
      rw [← hl]
      obtain ⟨ha, hb, _⟩ := h0 0 x (by rw [hl]; rfl)
      have e1 : (l_0.map bs).map (·.data.toList) = l_0 := by rw [List.map_map]; exact (List.map_congr_left (fun y _ => bs_dl y)).trans (List.map_id l_0)
      have hlen : (l_0.map bs).length = l_0.length := List.length_map _
      have key := Tryz.strings_Join (ba a0').block (ba a0').off c0' (l_0.map bs) (bs sep_1) w
        (fun j y hy => by
          rw [List.getElem?_map] at hy
          obtain ⟨z, hz, rfl⟩ := Option.map_eq_some_iff.1 hy
          obtain ⟨_, _, vs, hv, hc2⟩ := h0 j z hz
          obtain rfl : vs = [.string (bs z)] := hv
          have := hc2 0 _ rfl
          simpa [at_, fStr, Fl.ty] using this)
        hb (by rw [hlen]; omega) (by rw [hlen]; exact hle0) (by rw [e1, bs_dl]; exact hc.2)
      rw [hlen, e1, bs_dl] at key
      have ea : a0' = some ⟨(ba a0').block, (ba a0').off, none⟩ := by rw [ha]; rfl
      rw [ea]
      refine Calls.mono key ?_
      rintro e w' ⟨rfl, hB⟩
      exact ⟨_, rfl, rfl, hB⟩
  · cases hm

end Go.Proofs.YtkglfbcelaphhaaGreatDoor
