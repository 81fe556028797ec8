/- Calls of the library do what their Lean functions say. -/
import Derived.Test.YtkpdicajinionaaGreatDoorGg
import Derived.Test.YtkpdicajinionaaGreatDoorSh
import Derived.Test.YtkpdicajinionaaGreatDoorMh
set_option maxRecDepth 20000
set_option maxHeartbeats 4000000
namespace Go.Proofs.YtkpdicajinionaaGreatDoor
open Go Go.Gv Go.RowKit

theorem c_49 (n : Nat) (s_0 sep_1 : List UInt8) (w : World) {r : List (List UInt8)} (hm : m_strings_Split n s_0 sep_1 = some r) (hG : GL 1 w) :
    CallV Tryz.prog 49 #[.string (bs s_0), .string (bs sep_1)] w (fun v w' => ∃ (ra0 : Option Addr) (rc0 : Nat), v = .slice ra0 r.length rc0 ∧ Ext w w' ∧ SH w' w.heap.size [aOwn fStr 9 ra0 rc0 r]) := by
  unfold m_strings_Split at hm
  split at hm
  · rename_i hc
    obtain rfl := Option.some.inj hm
    obtain ⟨m, hM⟩ := hG.1 (by decide)
    have h1 : 1 ≤ (bs sep_1).size := hc.2
    refine Calls.mono (Tryz.strings_Split (bs s_0) (bs sep_1) m w hc.1 hM h1) ?_
    rintro e w' ⟨rfl, rfl⟩
    have hl := Lib.splitB_all (bs sep_1) h1 0 _ (bs s_0) rfl
    have hd := Lib.splitB_data (bs sep_1) 0 (Lib.countB (bs s_0) (bs sep_1)) (bs s_0)
    have hb := Lib.countB_le (bs sep_1) h1 _ (bs s_0) (Nat.le_refl _)
    have hr : Lib.split s_0 sep_1 = (Lib.splitB (bs sep_1) 0 (Lib.countB (bs s_0) (bs sep_1)) (bs s_0)).map (·.data.toList) := by rw [hd]; rfl
    have hs : (bs s_0).size = s_0.length := rfl
    have hS := SH.strs w 9 (Lib.splitB (bs sep_1) 0 (Lib.countB (bs s_0) (bs sep_1)) (bs s_0)) (by rw [hl]; unfold maxLen; omega)
    rw [← hr] at hS
    refine ⟨_, rfl, some ⟨w.heap.size, 0, none⟩, Lib.countB (bs s_0) (bs sep_1) + 1, ?_, Ext.alloc w _, ?_⟩
    · rw [hr, List.length_map, hl]
    · rw [hl] at hS; exact hS
  · cases hm

theorem c_74 (n : Nat) (s_0 sep_1 : List UInt8) (k_2 : Int) (w : World) {r : List (List UInt8)} (hm : m_strings_SplitN n s_0 sep_1 k_2 = some r) (hG : GL 1 w) :
    CallV Tryz.prog 74 #[.string (bs s_0), .string (bs sep_1), .int .i64 k_2] w (fun v w' => ∃ (ra0 : Option Addr) (rc0 : Nat), v = .slice ra0 r.length rc0 ∧ Ext w w' ∧ SH w' w.heap.size [aOwn fStr 9 ra0 rc0 r]) := by
  unfold m_strings_SplitN at hm
  split at hm
  · rename_i hc
    obtain rfl := Option.some.inj hm
    obtain ⟨m, hM⟩ := hG.1 (by decide)
    obtain ⟨hc0, hc1, hc2, hc3⟩ := hc
    have h1 : 1 ≤ (bs sep_1).size := hc1
    obtain ⟨N, rfl⟩ : ∃ N : Nat, k_2 = (N : Int) := ⟨k_2.toNat, by omega⟩
    have hs : (bs s_0).size = s_0.length := rfl
    refine Calls.mono (Tryz.strings_SplitN (bs s_0) (bs sep_1) N m w hc0 hM h1 (by omega) (by omega)) ?_
    rintro e w' ⟨rfl, rfl⟩
    have hl := Lib.splitB_length_le (bs sep_1) 0 (min N ((bs s_0).size + 1) - 1) (bs s_0)
    have hd := Lib.splitB_data (bs sep_1) 0 (min N ((bs s_0).size + 1) - 1) (bs s_0)
    have hr : Lib.splitN s_0 sep_1 (N : Int).toNat = (Lib.splitB (bs sep_1) 0 (min N ((bs s_0).size + 1) - 1) (bs s_0)).map (·.data.toList) := by rw [hd, Int.toNat_natCast]; rfl
    have hS := SH.strsN w 9 (Lib.splitB (bs sep_1) 0 (min N ((bs s_0).size + 1) - 1) (bs s_0)) (min N ((bs s_0).size + 1)) (by omega) (by unfold maxLen; omega)
    rw [← hr] at hS
    refine ⟨_, rfl, some ⟨w.heap.size, 0, none⟩, min N ((bs s_0).size + 1), ?_, Ext.alloc w _, hS⟩
    rw [hr, List.length_map]
  · cases hm

theorem c_72 (n : Nat) (i_0 base_1 : Int) (w : World) {r : List UInt8} (hm : m_strconv_FormatInt n i_0 base_1 = some r) (hG : GL 2 w) :
    CallV Tryz.prog 72 #[.int .i64 i_0, .int .i64 base_1] w (fun v w' => v = .string (bs r) ∧ Ext w w') := by
  unfold m_strconv_FormatInt at hm
  split at hm
  · rename_i hc
    obtain rfl := Option.some.inj hm
    obtain ⟨h0, h1, rfl⟩ := hc
    refine Calls.mono (Tryz.strconv_FormatInt_10 i_0 h0 h1 w (hG.2.1 (by decide))) ?_
    rintro e w' ⟨rfl, k, os, rfl⟩
    exact ⟨_, rfl, rfl, Lib.below_grow _ w (Nat.le_refl _) k os⟩
  · cases hm

theorem c_76 (n : Nat) (s_0 : List UInt8) (base_1 bits_2 : Int) (w : World) {r : Int × Bool} (hm : m_strconv_ParseInt n s_0 base_1 bits_2 = some r) (hG : GL 4 w) :
    CallV Tryz.prog 76 #[.string (bs s_0), .int .i64 base_1, .int .i64 bits_2] w (fun v w' => ∃ ev, v = .tuple #[.int .i64 r.1, ev] ∧ IsErr r.2 ev ∧ Ext w w') := by
  unfold m_strconv_ParseInt at hm
  split at hm
  · rename_i hc
    obtain ⟨h0, rfl, rfl⟩ := hc
    have hs : (bs s_0).size = s_0.length := rfl
    have hd : (bs s_0).data.toList = s_0 := bs_dl s_0
    cases hp : Lib.parseIntB 64 s_0
    case ok x =>
      simp only [hp] at hm
      obtain rfl := Option.some.inj hm
      refine Calls.mono (Tryz.strconv_ParseInt_10_at64_ok (bs s_0) (by omega) x (by rw [hd]; exact hp) w) ?_
      rintro e w' ⟨rfl, hw⟩
      refine ⟨_, rfl, _, rfl, .inl ⟨rfl, rfl⟩, ?_⟩
      rcases hw with rfl | ⟨t, rfl⟩
      · exact Ext.refl _
      · exact Lib.bytesWorld_below w _ t
    case range =>
      simp only [hp] at hm
      obtain rfl := Option.some.inj hm
      obtain ⟨t, p, hE⟩ := hG.2.2.2 (by decide)
      refine Calls.mono (Tryz.strconv_ParseInt_10_at64_range (bs s_0) (by omega) (by rw [hd]; exact hp) _ w hE (.inr ⟨t, p, rfl⟩)) ?_
      rintro e w' ⟨N, rfl, _, _, hB⟩
      exact ⟨_, rfl, _, rfl, .inr ⟨rfl, _, _, rfl⟩, hB⟩
    · skip
      simp only [hp] at hm
      obtain rfl := Option.some.inj hm
      obtain ⟨t, p, hE⟩ := hG.2.2.1 (by decide)
      refine Calls.mono (Tryz.strconv_ParseInt_10_at64_syntax (bs s_0) (by omega) (by rw [hd]; exact hp) _ w hE (.inr ⟨t, p, rfl⟩)) ?_
      rintro e w' ⟨N, rfl, _, _, hB⟩
      exact ⟨_, rfl, _, rfl, .inr ⟨rfl, _, _, rfl⟩, hB⟩
  · cases hm

theorem c_75 (n : Nat) (s_0 p_1 : List UInt8) (w : World) {r : List UInt8} (hm : m_strings_TrimPrefix n s_0 p_1 = some r) :
    CallV Tryz.prog 75 #[.string (bs s_0), .string (bs p_1)] w (fun v w' => v = .string (bs r) ∧ Ext w w') := by
  unfold m_strings_TrimPrefix at hm
  obtain rfl := Option.some.inj hm
  refine Calls.mono (Tryz.strings_TrimPrefix (bs s_0) (bs p_1) w) ?_
  rintro e w' ⟨rfl, rfl⟩
  refine ⟨_, rfl, ?_, Ext.refl _⟩
  rfl

end Go.Proofs.YtkpdicajinionaaGreatDoor
