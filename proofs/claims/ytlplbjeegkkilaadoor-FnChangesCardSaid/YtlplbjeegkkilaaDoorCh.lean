/- Calls of the library do what their Lean functions say. -/
import Derived.Test.YtlplbjeegkkilaaDoorGg
import Derived.Test.YtlplbjeegkkilaaDoorSh
import Derived.Test.YtlplbjeegkkilaaDoorMh
set_option maxRecDepth 20000
set_option maxHeartbeats 4000000
namespace Go.Proofs.YtlplbjeegkkilaaDoor
open Go Go.Gv Go.RowKit

theorem c_28 (n : Nat) (s_0 sep_1 : List UInt8) (w : World) {r : List UInt8 × List UInt8 × Bool} (hm : m_strings_Cut n s_0 sep_1 = some r) (hG : GL 1 w) :
    CallV Tryd.prog 28 #[.string (bs s_0), .string (bs sep_1)] w (fun v w' => v = .tuple #[.string (bs r.1), .string (bs r.2.1), .bool r.2.2] ∧ Ext w w') := by
  unfold m_strings_Cut at hm
  split at hm
  · rename_i hc
    obtain rfl := Option.some.inj hm
    obtain ⟨m, hM⟩ := hG.1 (by decide)
    refine Calls.mono (Tryd.strings_Cut (bs s_0) (bs sep_1) m w hc hM) ?_
    rintro e w' ⟨rfl, k, rfl⟩
    refine ⟨_, rfl, ?_, Lib.below_grow _ w (Nat.le_refl _) k #[]⟩
    rfl
  · cases hm

theorem c_47 (n : Nat) (i_0 base_1 : Int) (w : World) {r : List UInt8} (hm : m_strconv_FormatInt n i_0 base_1 = some r) (hG : GL 2 w) :
    CallV Tryd.prog 47 #[.int .i64 i_0, .int .i64 base_1] w (fun v w' => v = .string (bs r) ∧ Ext w w') := by
  unfold m_strconv_FormatInt at hm
  split at hm
  · rename_i hc
    obtain rfl := Option.some.inj hm
    obtain ⟨h0, h1, rfl⟩ := hc
    refine Calls.mono (Tryd.strconv_FormatInt_10 i_0 h0 h1 w (hG.2.1 (by decide))) ?_
    rintro e w' ⟨rfl, k, os, rfl⟩
    exact ⟨_, rfl, rfl, Lib.below_grow _ w (Nat.le_refl _) k os⟩
  · cases hm

theorem c_50 (n : Nat) (s_0 : List UInt8) (base_1 bits_2 : Int) (w : World) {r : Int × Bool} (hm : m_strconv_ParseInt n s_0 base_1 bits_2 = some r) (hG : GL 4 w) :
    CallV Tryd.prog 50 #[.string (bs s_0), .int .i64 base_1, .int .i64 bits_2] w (fun v w' => ∃ ev, v = .tuple #[.int .i64 r.1, ev] ∧ IsErr r.2 ev ∧ Ext w w') := by
  unfold m_strconv_ParseInt at hm
  split at hm
  · rename_i hc
    obtain ⟨h0, rfl, rfl⟩ := hc
    have hs : (bs s_0).size = s_0.length := rfl
    have hd : (bs s_0).data.toList = s_0 := bs_dl s_0
    cases hp : Lib.parseIntB 64 s_0
    case ok x =>
      simp only [hp] at hm
      obtain rfl := Option.some.inj hm
      refine Calls.mono (Tryd.strconv_ParseInt_10_at64_ok (bs s_0) (by omega) x (by rw [hd]; exact hp) w) ?_
      rintro e w' ⟨rfl, hw⟩
      refine ⟨_, rfl, _, rfl, .inl ⟨rfl, rfl⟩, ?_⟩
      rcases hw with rfl | ⟨t, rfl⟩
      · exact Ext.refl _
      · exact Lib.bytesWorld_below w _ t
    case range =>
      simp only [hp] at hm
      obtain rfl := Option.some.inj hm
      obtain ⟨t, p, hE⟩ := hG.2.2.2.2 (by decide)
      refine Calls.mono (Tryd.strconv_ParseInt_10_at64_range (bs s_0) (by omega) (by rw [hd]; exact hp) _ w hE (.inr ⟨t, p, rfl⟩)) ?_
      rintro e w' ⟨N, rfl, _, _, hB⟩
      exact ⟨_, rfl, _, rfl, .inr ⟨rfl, _, _, rfl⟩, hB⟩
    · skip
      simp only [hp] at hm
      obtain rfl := Option.some.inj hm
      obtain ⟨t, p, hE⟩ := hG.2.2.2.1 (by decide)
      refine Calls.mono (Tryd.strconv_ParseInt_10_at64_syntax (bs s_0) (by omega) (by rw [hd]; exact hp) _ w hE (.inr ⟨t, p, rfl⟩)) ?_
      rintro e w' ⟨N, rfl, _, _, hB⟩
      exact ⟨_, rfl, _, rfl, .inr ⟨rfl, _, _, rfl⟩, hB⟩
  · cases hm

theorem c_30 (n : Nat) (s_0 p_1 : List UInt8) (w : World) {r : List UInt8} (hm : m_strings_TrimPrefix n s_0 p_1 = some r) :
    CallV Tryd.prog 30 #[.string (bs s_0), .string (bs p_1)] w (fun v w' => v = .string (bs r) ∧ Ext w w') := by
  unfold m_strings_TrimPrefix at hm
  obtain rfl := Option.some.inj hm
  refine Calls.mono (Tryd.strings_TrimPrefix (bs s_0) (bs p_1) w) ?_
  rintro e w' ⟨rfl, rfl⟩
  refine ⟨_, rfl, ?_, Ext.refl _⟩
  rfl

end Go.Proofs.YtlplbjeegkkilaaDoor
