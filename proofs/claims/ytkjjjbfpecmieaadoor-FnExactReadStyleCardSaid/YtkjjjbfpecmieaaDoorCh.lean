/- Calls of the library do what their Lean functions say. -/
import Derived.Test.YtkjjjbfpecmieaaDoorGg
import Derived.Test.YtkjjjbfpecmieaaDoorSh
import Derived.Test.YtkjjjbfpecmieaaDoorMh
import Derived.Test.YtkjjjbfpecmieaaDoorGp
set_option maxRecDepth 20000
set_option maxHeartbeats 4000000
namespace Go.Proofs.YtkjjjbfpecmieaaDoor
open Go Go.Gv Go.RowKit

theorem c_45 (n : Nat) (s_0 sep_1 : List UInt8) (w : World) {r : List (List UInt8)} (hm : m_strings_Split n s_0 sep_1 = some r) (hG : GL 1 w) :
    CallV Tryd.prog 45 #[.string (bs s_0), .string (bs sep_1)] w (fun v w' => ∃ (ra0 : Option Addr) (rc0 : Nat), v = .slice ra0 r.length rc0 ∧ Ext w w' ∧ SH w' w.heap.size [aOwn fStr 9 ra0 rc0 r]) := by
  unfold m_strings_Split at hm
  split at hm
  · rename_i hc
    obtain rfl := Option.some.inj hm
    obtain ⟨m, hM⟩ := hG.1 (by decide)
    have h1 : 1 ≤ (bs sep_1).size := hc.2
    refine Calls.mono (Tryd.strings_Split (bs s_0) (bs sep_1) m w hc.1 hM h1) ?_
    rintro e w' ⟨rfl, rfl⟩
    have hl := Lib.splitB_all (bs sep_1) h1 0 _ (bs s_0) rfl
    have hd := Lib.splitB_data (bs sep_1) 0 (Lib.countB (bs s_0) (bs sep_1)) (bs s_0)
    have hb := Lib.countB_le (bs sep_1) h1 _ (bs s_0) (Nat.le_refl _)
    have hr : Lib.split s_0 sep_1 = (Lib.splitB (bs sep_1) 0 (Lib.countB (bs s_0) (bs sep_1)) (bs s_0)).map (·.data.toList) := by rw [hd]; rfl
    have hs : (bs s_0).size = s_0.length := rfl
    have hS := SH.strs w 9 (Lib.splitB (bs sep_1) 0 (Lib.countB (bs s_0) (bs sep_1)) (bs s_0)) (by rw [hl]; unfold maxLen; omega)
    rw [← hr] at hS
    refine ⟨_, rfl, some ⟨w.heap.size, 0, none⟩, Lib.countB (bs s_0) (bs sep_1) + 1, ?_, Ext.alloc w _, ?_⟩
    · rw [hr, List.length_map, hl]
    · rw [hl] at hS; exact hS
  · cases hm

theorem c_70 (n : Nat) (i_0 base_1 : Int) (w : World) {r : List UInt8} (hm : m_strconv_FormatInt n i_0 base_1 = some r) (hG : GL 2 w) :
    CallV Tryd.prog 70 #[.int .i64 i_0, .int .i64 base_1] w (fun v w' => v = .string (bs r) ∧ Ext w w') := by
  unfold m_strconv_FormatInt at hm
  split at hm
  · rename_i hc
    obtain rfl := Option.some.inj hm
    obtain ⟨h0, h1, rfl⟩ := hc
    refine Calls.mono (Tryd.strconv_FormatInt_10 i_0 h0 h1 w (hG.2.1 (by decide))) ?_
    rintro e w' ⟨rfl, k, os, rfl⟩
    exact ⟨_, rfl, rfl, Lib.below_grow _ w (Nat.le_refl _) k os⟩
  · cases hm

theorem c_78 (n : Nat) (s_0 : List UInt8) (base_1 bits_2 : Int) (w : World) {r : Int × Bool} (hm : m_strconv_ParseInt n s_0 base_1 bits_2 = some r) (hG : GL 3 w) :
    CallV Tryd.prog 78 #[.string (bs s_0), .int .i64 base_1, .int .i64 bits_2] w (fun v w' => ∃ ev, v = .tuple #[.int .i64 r.1, ev] ∧ IsErr r.2 ev ∧ Ext w w') := by
  unfold m_strconv_ParseInt at hm
  split at hm
  · rename_i hc
    obtain ⟨h0, rfl, rfl⟩ := hc
    have hs : (bs s_0).size = s_0.length := rfl
    have hd : (bs s_0).data.toList = s_0 := bs_dl s_0
    cases hp : Lib.parseIntB 64 s_0
    case ok x =>
      simp only [hp] at hm
      obtain rfl := Option.some.inj hm
      refine Calls.mono (Tryd.strconv_ParseInt_10_at64_ok (bs s_0) (by omega) x (by rw [hd]; exact hp) w) ?_
      rintro e w' ⟨rfl, hw⟩
      refine ⟨_, rfl, _, rfl, .inl ⟨rfl, rfl⟩, ?_⟩
      rcases hw with rfl | ⟨t, rfl⟩
      · exact Ext.refl _
      · exact Lib.bytesWorld_below w _ t
    case range =>
      simp only [hp] at hm
      obtain rfl := Option.some.inj hm
      obtain ⟨t, p, hE⟩ := hG.2.2.2 (by decide)
      refine Calls.mono (Tryd.strconv_ParseInt_10_at64_range (bs s_0) (by omega) (by rw [hd]; exact hp) _ w hE (.inr ⟨t, p, rfl⟩)) ?_
      rintro e w' ⟨N, rfl, _, _, hB⟩
      exact ⟨_, rfl, _, rfl, .inr ⟨rfl, _, _, rfl⟩, hB⟩
    · skip
      simp only [hp] at hm
      obtain rfl := Option.some.inj hm
      obtain ⟨t, p, hE⟩ := hG.2.2.1 (by decide)
      refine Calls.mono (Tryd.strconv_ParseInt_10_at64_syntax (bs s_0) (by omega) (by rw [hd]; exact hp) _ w hE (.inr ⟨t, p, rfl⟩)) ?_
      rintro e w' ⟨N, rfl, _, _, hB⟩
      exact ⟨_, rfl, _, rfl, .inr ⟨rfl, _, _, rfl⟩, hB⟩
  · cases hm

theorem c_77 (n : Nat) (s_0 p_1 : List UInt8) (w : World) {r : List UInt8} (hm : m_strings_TrimPrefix n s_0 p_1 = some r) :
    CallV Tryd.prog 77 #[.string (bs s_0), .string (bs p_1)] w (fun v w' => v = .string (bs r) ∧ Ext w w') := by
  unfold m_strings_TrimPrefix at hm
  obtain rfl := Option.some.inj hm
  refine Calls.mono (Tryd.strings_TrimPrefix (bs s_0) (bs p_1) w) ?_
  rintro e w' ⟨rfl, rfl⟩
  refine ⟨_, rfl, ?_, Ext.refl _⟩
  rfl

theorem c_39 (n : Nat) (l_0 : List (List UInt8)) (a0' : Option Addr) (c0' : Nat) (sep_1 : List UInt8) (w : World) {r : List UInt8} (hm : m_strings_Join n l_0 sep_1 = some r) (h0 : Rd fStr.ty w a0' l_0) (hle0 : l_0.length ≤ c0') :
    CallV Tryd.prog 39 #[.slice a0' l_0.length c0', .string (bs sep_1)] w (fun v w' => v = .string (bs r) ∧ Ext w w') := by
  unfold m_strings_Join at hm
  split at hm
  · rename_i hc
    obtain rfl := Option.some.inj hm
    cases hl : l_0 with
    | nil =>
      refine Calls.mono (Tryd.strings_Join_none a0' c0' (bs sep_1) w) ?_
      rintro e w' ⟨rfl, rfl⟩
      exact ⟨_, rfl, rfl, Ext.refl _⟩
    | cons x xs =>
      rw [← hl]
      obtain ⟨ha, hb, _⟩ := h0 0 x (by rw [hl]; rfl)
      have e1 : (l_0.map bs).map (·.data.toList) = l_0 := by rw [List.map_map]; exact (List.map_congr_left (fun y _ => bs_dl y)).trans (List.map_id l_0)
      have hlen : (l_0.map bs).length = l_0.length := List.length_map _
      have key := Tryd.strings_Join (ba a0').block (ba a0').off c0' (l_0.map bs) (bs sep_1) w
        (fun j y hy => by
          rw [List.getElem?_map] at hy
          obtain ⟨z, hz, rfl⟩ := Option.map_eq_some_iff.1 hy
          obtain ⟨_, _, vs, hv, hc2⟩ := h0 j z hz
          obtain rfl : vs = [.string (bs z)] := hv
          have := hc2 0 _ rfl
          simpa [at_, fStr, Fl.ty] using this)
        hb (by rw [hlen]; omega) (by rw [hlen]; exact hle0) (by rw [e1, bs_dl]; exact hc.2)
      rw [hlen, e1, bs_dl] at key
      have ea : a0' = some ⟨(ba a0').block, (ba a0').off, none⟩ := by rw [ha]; rfl
      rw [ea]
      refine Calls.mono key ?_
      rintro e w' ⟨rfl, hB⟩
      exact ⟨_, rfl, rfl, hB⟩
  · cases hm

theorem blank_in (x : List UInt8) (W : World) : Go.Proofs.FnGives Tryd.prog 76 #[] #[.string (bs x)] (.bool (x == [])) W := by
  show Calls Tryd.prog 76 #[.string (bs x)] W _
  refine Calls.mono (CallV.enter Tryd.func76 rfl (by kernel_rfl) Tryd.ntmps76 (env := [(0, .string (bs x))]) (R := fun v w' => v = .bool (x == []) ∧ w' = W) ⟨rfl, trivial⟩ ?_) ?_
  · refine WP.seq (fun K1 hK1 => ?_)
    refine WP.region ?_
    refine WL.runk 1 [0] [(0, .string (bs x))] (by kernel_rfl) ?_
    refine WL.nil ?_
    refine WQ.then_normal (hK1 _ _ _ ?_)
    refine WP.seq (fun K2 hK2 => ?_)
    refine WP.region ?_
    refine WL.runk 1 [3] [(3, .string (bs x))] (by kernel_rfl) ?_
    refine WL.st (.bool (x == [])) (ST.streq (x := x) (y := []) rfl rfl rfl) rfl rfl rfl ?_
    refine WL.runk 1 [2] [(2, .bool (x == []))] (by kernel_rfl) ?_
    refine WL.nil ?_
    refine WQ.then_normal (hK2 _ _ _ ?_)
    refine WP.ret ?_
    exact WQ.ret1 _ rfl rfl ⟨rfl, rfl⟩
  · rintro e w' ⟨v, rfl, rfl, rfl⟩
    exact ⟨rfl, 0, rfl⟩

theorem c_62 (n : Nat) (s_0 : List UInt8) (w : World) {r : List (List UInt8)} (hm : m_impl_SplitWords n s_0 = some r) (hG : GL 1 w) :
    CallV Tryd.prog 62 #[.string (bs s_0)] w (fun v w' => ∃ (ra0 : Option Addr) (rc0 : Nat), v = .slice ra0 r.length rc0 ∧ Ext w w' ∧ SH w' w.heap.size [aOwn fStr 9 ra0 rc0 r]) := by
  unfold m_impl_SplitWords at hm
  split at hm
  · rename_i hc
    obtain rfl := Option.some.inj hm
    have hs : (bs s_0).size = s_0.length := rfl
    have h1 : 1 ≤ (bs [32]).size := Nat.le_refl _
    obtain ⟨m, hM⟩ := hG.1 (by decide)
    have hl := Lib.splitB_all (bs [32]) h1 0 _ (bs s_0) rfl
    have hd := Lib.splitB_data (bs [32]) 0 (Lib.countB (bs s_0) (bs [32])) (bs s_0)
    have hb := Lib.countB_le (bs [32]) h1 _ (bs s_0) (Nat.le_refl _)
    have key1 := Tryd.strings_Split (bs s_0) (bs [32]) m w hc hM h1
    generalize hL : Lib.splitB (bs [32]) 0 (Lib.countB (bs s_0) (bs [32])) (bs s_0) = L at hl hd key1
    have hr : Lib.split s_0 [32] = L.map (·.data.toList) := by rw [hd]; rfl
    obtain ⟨N, hN⟩ : ∃ N, N = Lib.countB (bs s_0) (bs [32]) + 1 := ⟨_, rfl⟩
    rw [← hN] at hl key1
    have hNm : N ≤ maxLen := by unfold maxLen; omega
    obtain ⟨X, hX⟩ : ∃ X, X = Lib.split s_0 [32] := ⟨_, rfl⟩
    rw [← hX] at hr ⊢
    have hXl : X.length = N := by rw [hr, List.length_map, hl]
    have hfl : (X.filter fun w => !(w == [])).length ≤ N := by have := List.length_filter_le (fun w : List UInt8 => !(w == [])) X; omega
    have hcs : (L.map Value.string).toArray.size = N := by simp [hl]
    have hc1 : CallV Tryd.prog 45 #[.string (bs s_0), .string (bs [32])] w (fun v w' => v = .slice (some ⟨w.heap.size, 0, none⟩) N N ∧ w' = w.alloc (.cells (L.map Value.string).toArray 9)) :=
      Calls.mono key1 (by rintro e w' ⟨rfl, rfl⟩; exact ⟨_, rfl, rfl, rfl⟩)
    have hH : Go.Sort.Holds (fun l : List UInt8 => Value.string (bs l)) (w.alloc (.cells (L.map Value.string).toArray 9)) w.heap.size 0 X.toArray := by
      intro j hj
      have hj2 : j < L.length := by simpa [hXl, hl] using hj
      have hj3 : j < X.length := by omega
      refine ⟨?_, ?_⟩
      · have e1 : X.toArray[j]! = L[j].data.toList := by
          rw [getElem!_pos X.toArray j (by simpa using hj3)]
          simp [hr]
        rw [e1]
        have e2 : bs L[j].data.toList = L[j] := (bs_eq _).symm
        show _ = some (Value.string (bs L[j].data.toList))
        rw [e2]
        simp only [World.cell?, heap_alloc_new]
        simp [hj2]
      · simp only [World.frozen?, heap_alloc_new]
        simp
    have eg : ∀ args w, (callFunc 76 args).run Tryd.prog w = .ok (.enter 76 args) w := enters_of Tryd.func76 (by kernel_rfl) rfl
    have key2 := Tryd.slices_DeleteFunc (fun l : List UInt8 => Value.string (bs l)) (fun _ => rfl) (fun x => x == []) 76 #[] eg [] Tryd.zeroValue9 w.heap.size 0 N X.toArray (w.alloc (.cells (L.map Value.string).toArray 9))
      (fun W x _ => blank_in x W) (fun _ _ _ x _ => blank_in x _) hH (by simp [hXl]; unfold maxLen at hNm; omega) (by simp [hXl])
    have hsz : X.toArray.size = N := by simpa using hXl
    rw [hsz] at key2
    have hds : ((X.filter fun w => !(w == [])) ++ List.replicate (N - (X.filter fun w => !(w == [])).length) ([] : List UInt8)).toArray.size = N := by rw [List.size_toArray, List.length_append, List.length_replicate]; omega
    have hc2 : CallV Tryd.prog 34 #[.slice (some ⟨w.heap.size, 0, none⟩) N N, .func (.func 76) #[] #[]] (w.alloc (.cells (L.map Value.string).toArray 9)) (fun v w' => v = .slice (some ⟨w.heap.size, 0, none⟩) (X.filter fun w => !(w == [])).length N ∧ Ext w w' ∧ SH w' w.heap.size [aOwn fStr 9 (some ⟨w.heap.size, 0, none⟩) N (X.filter fun w => !(w == []))]) := by
      refine Calls.mono key2 ?_
      rintro e w' ⟨rfl, q, rfl⟩
      refine ⟨_, rfl, rfl, Ext.putRow w _ 9 q _ (by rw [hds, hcs]), ?_⟩
      have := SH.putRow w _ 9 _ (X.filter fun w => !(w == [])) (List.replicate (N - (X.filter fun w => !(w == [])).length) ([] : List UInt8)) rfl (by rw [hds]; exact hNm) (putRow_heap w _ 9 q _ (by rw [hds, hcs]))
      rw [hds] at this
      exact this
    refine CallV.enter Tryd.func62 rfl (by kernel_rfl) Tryd.ntmps62 (env := [(0, .string (bs s_0))]) ⟨rfl, trivial⟩ ?_
    refine WP.seq (fun K1 hK1 => ?_)
    refine WP.region ?_
    refine WL.runk 1 [0] [(0, .string (bs s_0))] (by kernel_rfl) ?_
    refine WL.nil ?_
    refine WQ.then_normal (hK1 _ _ _ ?_)
    refine WP.seq (fun K2 hK2 => ?_)
    refine WP.region ?_
    refine WL.runk 1 [3] [(3, .string (bs s_0))] (by kernel_rfl) ?_
    refine WL.call 45 #[.string (bs s_0), .string (bs [32])] rfl rfl (by kernel_rfl) hc1 ?_
    rintro _ w8 ⟨rfl, rfl⟩
    refine ⟨_, rfl, ?_⟩
    refine WL.call 34 #[.slice (some ⟨w.heap.size, 0, none⟩) N N, .func (.func 76) #[] #[]] rfl rfl (by kernel_rfl) hc2 ?_
    rintro _ w9 ⟨rfl, hE9, hS9⟩
    refine ⟨_, rfl, ?_⟩
    refine WL.runk 1 [2] [(2, .slice (some ⟨w.heap.size, 0, none⟩) (X.filter fun w => !(w == [])).length N)] (by kernel_rfl) ?_
    refine WL.nil ?_
    refine WQ.then_normal (hK2 _ _ _ ?_)
    refine WP.ret ?_
    exact WQ.ret1 _ rfl rfl ⟨_, _, rfl, hE9, hS9⟩
  · cases hm

end Go.Proofs.YtkjjjbfpecmieaaDoor
