/- Rows of the call's own that are cut short or cleared, for the small program logic. No program is named here. -/
import Derived.Test.YtkpdicajinionaaGreatDoorGx
import Derived.Lib.AppendZeros
namespace Go.Gv
open Go Go.RowKit

section
variable {P : Program} {ops : Array Oper} {Q : Exit → Act → World → Prop} {N : Nat} {env env' : Env} {w w' : World} {l rest : List Oper} {o o2 : Oper} {B : Nat} {L : List Asrt} {α : Type} {F : Fl α} {t e : TypeId} {inf : TypeInfo} {a : Option Addr} {c : Nat} {xs ys : List α} {X : Operand} {i : Int}

theorem sub_le {xs ys : List α} {i j : Int} (h : Gv.sub xs i j = some ys) : i.toNat ≤ xs.length := by
  unfold Gv.sub at h
  split at h
  · omega
  · cases h

theorem cut_len {xs : List α} {n : Nat} {z : α} (h : n ≤ xs.length) : (xs.take n ++ List.replicate (xs.length - n) z).length = xs.length := by simp; omega

theorem run_zeroValue {z : Value} (hi : P.info? e = some inf) (hz : inf.zero = some z) (w : World) : (zeroValue e).run P w = .ok z w := by
  simp [zeroValue, typeInfo, hi, hz]

/-- s[:j] of a row of the call's own: the row is cut short. -/
theorem WL.shrink (d : Nat) (hS : SH w B (aOwn F e a c xs :: L)) (hs : Gv.sub xs 0 i = some ys) {hi : Option Operand} (ho : o.op = .slice t X none hi none) (hX : rho env X = .slice a xs.length c)
    (ht : P.underlying t = some (.slice e)) (hinf : P.info? e = some inf) (hsz : inf.size = F.sz) (hhi : boundV env (xs.length : Int) hi i)
    (hw : want ops env o = some true) (hk : known env o = true) (hd : o.dst = some d) (hN : Nat.blt d N = true)
    (h : SH w B (aOwn F e a c ys :: L) → WL P ops Q N rest (put env d (.slice a ys.length c)) w) : WL P ops Q N (o :: rest) env w := by
  unfold Gv.sub at hs
  split at hs
  · rename_i hh
    cases hs
    have hlen : ((xs.take i.toNat).drop (0 : Int).toNat).length = i.toNat := by simp; omega
    have hle := (SH.le hS).1
    have hS2 : SH w B (aOwn F e a c ((xs.take i.toNat).drop (0 : Int).toNat) :: L) := by
      obtain ⟨S1, S2, h1, h2, h3, hA, h5⟩ := hS
      refine ⟨S1, S2, h1, h2, h3, ?_, h5⟩
      rcases own_shape hA with ⟨rfl, rfl, rfl⟩ | ⟨g, cur, rfl, hg, hhp, g2, g3, g4, g5⟩
      · simp only [List.take_nil, List.drop_nil]; exact hA
      · refine ⟨⟨by rw [flat_len], .inr ⟨g, c, cur, rfl, Nat.zero_le _, hhp, by rw [hlen]; omega, g3, g4, ?_⟩⟩, fun k hk => by simp [Value.ownBlock] at hk; subst hk; exact hg⟩
        rw [hlen]
        have e1 : (xs.take i.toNat).drop (0 : Int).toNat = xs.take i.toNat := by simp
        rw [e1]
        have hi2 : i.toNat ≤ xs.length := by omega
        have e2 : (xs.take i.toNat).flatMap F.leaf = (xs.flatMap F.leaf).take (i.toNat * F.sz) := by
          have e3 : xs.flatMap F.leaf = (xs.take i.toNat).flatMap F.leaf ++ (xs.drop i.toNat).flatMap F.leaf := by rw [← List.flatMap_append, List.take_append_drop]
          rw [e3]
          have e4 : ((xs.take i.toNat).flatMap F.leaf).length = i.toNat * F.sz := by rw [flat_len, List.length_take, Nat.min_eq_left (by omega)]
          rw [← e4, List.take_left']
          rfl
        rw [e2, ← g5, List.take_take]
        have hmm : i.toNat * F.sz ≤ xs.length * F.sz := Nat.mul_le_mul_right _ hi2
        rw [Nat.min_eq_left hmm]
    have hval : (if c = (0 : Int).toNat then a else a.map (·.add ((0 : Int).toNat * F.sz))) = a := by
      split
      · rfl
      · cases a with
        | none => rfl
        | some p => simp [Addr.add]
    refine WL.val (.slice a ((xs.take i.toNat).drop (0 : Int).toNat).length c) w hw hk ?_ (env' := put env d (.slice a ((xs.take i.toNat).drop (0 : Int).toNat).length c)) (by simp only [putO, hd, hN]) (h hS2)
    have hb := run_bounds (P := P) (isSlice := true) (len := xs.length) (cap := c) (env := env) (lo := none) (hi := hi) (i := 0) (j := i) hle rfl hhi (by omega) hh.2.1 hh.2.2 w
    unfold execOp; rw [ho]
    have hb' : (Instr.sliceBounds true xs.length c none (hi.map (rho env)) none).run P w = .ok ((0 : Int).toNat, i.toNat, c) w := hb
    simp only [hX, Instr.sliceAt, Sem.run_bind, run_underlying ht, Result.andThen_ok, Instr.slice, Option.map_none, hb', run_sizeOf' hinf, hsz, Sem.run_pure, hlen, hval]
    simp
  · cases hs

/-- clear(s[i:]) of a row of the call's own. -/
theorem WL.clearTail {z : Value} (zx : α) (d : Nat) (hS : SH w B (aOwn F e a c xs :: L)) (hB : B ≤ w.heap.size) (hs : Gv.sub xs i (xs.length : Int) = some ys) {lo : Option Operand}
    (ho : o.op = .slice t X lo none none) (hX : rho env X = .slice a xs.length c) (ht : P.underlying t = some (.slice e)) (hinf : P.info? e = some inf) (hz : inf.zero = some z) (hsz : inf.size = F.sz) (hzc : z.cells.toList = F.leaf zx) (hlo : boundV env 0 lo i)
    (hw : want ops env o = some true) (hk : known env o = true) (hd : o.dst = some d) (hN : Nat.blt d N = true)
    (ho2 : o2.op = .call { callee := .builtin .clear, args := #[.tmp d], argTypes := #[t] }) (hg2 : o2.guard = none) (hd2 : o2.dst = none)
    (h : ∀ w' v, Below B w w' → SH w' B (aOwn F e a c (xs.take i.toNat ++ List.replicate (xs.length - i.toNat) zx) :: L) → WL P ops Q N rest (put env d v) w') : WL P ops Q N (o :: o2 :: rest) env w := by
  unfold Gv.sub at hs
  split at hs
  · rename_i hh
    cases hs
    have hle := (SH.le hS).1
    have hb := run_bounds (P := P) (isSlice := true) (len := xs.length) (cap := c) (env := env) (lo := lo) (hi := none) (i := i) (j := (xs.length : Int)) hle hlo rfl hh.1 hh.2.1 hh.2.2 w
    have hb' : (Instr.sliceBounds true xs.length c (lo.map (rho env)) none none).run P w = .ok (i.toNat, (xs.length : Int).toNat, c) w := hb
    have hn : (xs.length : Int).toNat - i.toNat = xs.length - i.toNat := by omega
    obtain ⟨S, hA, hSS, hup⟩ := hS.upd
    -- the slice
    refine WL.val (.slice (if c = i.toNat then a else a.map (·.add (i.toNat * F.sz))) (xs.length - i.toNat) (c - i.toNat)) w hw hk ?_ (env' := put env d (.slice (if c = i.toNat then a else a.map (·.add (i.toNat * F.sz))) (xs.length - i.toNat) (c - i.toNat))) (by simp only [putO, hd, hN]) ?_
    · unfold execOp; rw [ho]
      simp only [hX, Instr.sliceAt, Sem.run_bind, run_underlying ht, Result.andThen_ok, Instr.slice, Option.map_none, hb', run_sizeOf' hinf, hsz, Sem.run_pure, hn]
    -- what is cleared
    have fin : ∀ w', (Builtin.clear_ #[t] o2.type #[.slice (if c = i.toNat then a else a.map (·.add (i.toNat * F.sz))) (xs.length - i.toNat) (c - i.toNat)]).run P w = .ok (.tuple #[]) w' → Below B w w' →
        SH w' B (aOwn F e a c (xs.take i.toNat ++ List.replicate (xs.length - i.toNat) zx) :: L) → WL P ops Q N (o2 :: rest) (put env d (.slice (if c = i.toNat then a else a.map (·.add (i.toNat * F.sz))) (xs.length - i.toNat) (c - i.toNat))) w := by
      intro w' hrun hb hS'
      refine WL.val (.tuple #[]) w' ?_ ?_ ?_ (env' := put env d (.slice (if c = i.toNat then a else a.map (·.add (i.toNat * F.sz))) (xs.length - i.toNat) (c - i.toNat))) (by simp only [putO, hd2]) (h w' _ hb hS')
      · unfold Gv.want; rw [hg2]
      · unfold Gv.known; rw [ho2]
        have : (look (put env d (.slice (if c = i.toNat then a else a.map (·.add (i.toNat * F.sz))) (xs.length - i.toNat) (c - i.toNat))) d).isSome = true := by rw [look_put_same]; rfl
        simp [Op.operands, Call.operands, knownX, this]
      · unfold execOp; rw [ho2]
        have : rho (put env d (.slice (if c = i.toNat then a else a.map (·.add (i.toNat * F.sz))) (xs.length - i.toNat) (c - i.toNat))) (.tmp d) = .slice (if c = i.toNat then a else a.map (·.add (i.toNat * F.sz))) (xs.length - i.toNat) (c - i.toNat) := by
          simp only [rho, look_put_same, Option.getD_some]
        simp only [resolve, invoke, Sem.run_bind, Sem.run_pure, Result.andThen_ok, List.map_toArray, List.map_cons, List.map_nil, this]
        simp only [builtin, Sem.run_bind, hrun, Result.andThen_ok, Sem.run_pure]
    rcases own_shape hA with ⟨rfl, rfl, rfl⟩ | ⟨g, cur, rfl, hg, hhp, g2, g3, g4, g5⟩
    · have : i.toNat = 0 := by simp at hh; omega
      refine fin w ?_ (Below.refl _ _) (by simpa using hS)
      simp [Builtin.clear_, run_underlying ht]
    · by_cases hz0 : xs.length - i.toNat = 0
      · refine fin w ?_ (Below.refl _ _) ?_
        · rw [hz0]
          split <;> simp [Builtin.clear_, run_underlying ht]
        · rw [hz0, List.take_of_length_le (by omega)]; simpa using hS
      · have hne : ¬ c = i.toNat := by omega
        have hzl : z.cells.size = F.sz := by have := F.len zx; rw [← hzc] at this; simpa using this
        have hzcells : (Builtin.zeroCells z.cells (xs.length - i.toNat)).toList = (List.replicate (xs.length - i.toNat) zx).flatMap F.leaf := by
          apply List.ext_getElem?
          intro j
          have hp := F.pos
          have hsize : (Builtin.zeroCells z.cells (xs.length - i.toNat)).size = (xs.length - i.toNat) * F.sz := by rw [size_zeroCells, hzl]
          by_cases hj : j < (xs.length - i.toNat) * F.sz
          · have hdiv : j / F.sz < xs.length - i.toNat := Nat.div_lt_of_lt_mul (by rw [Nat.mul_comm]; exact hj)
            have hmod : j % F.sz < F.sz := Nat.mod_lt _ hp
            have e1 : (List.replicate (xs.length - i.toNat) zx)[j / F.sz]? = some zx := by simp [hdiv]
            have hz' : j % F.sz < z.cells.toList.length := by rw [hzc, F.len]; exact hmod
            have e2 : (F.leaf zx)[j % F.sz]? = some (z.cells[j % z.cells.size]!) := by
              rw [← hzc, List.getElem?_eq_getElem hz', hzl]
              have : j % F.sz < z.cells.size := by rw [hzl]; exact hmod
              simp [this]
            have := flat_get F _ _ _ _ _ e1 e2
            rw [show j / F.sz * F.sz + j % F.sz = j from Nat.div_add_mod' j F.sz] at this
            rw [this]
            simp [Builtin.zeroCells, hzl, hj]
          · have e1 : ((List.replicate (xs.length - i.toNat) zx).flatMap F.leaf).length ≤ j := by rw [flat_len]; simp; omega
            rw [List.getElem?_eq_none e1]
            rw [List.getElem?_eq_none]
            rw [Array.length_toList, hsize]; omega
        have hnl : ((List.replicate (xs.length - i.toNat) zx).flatMap F.leaf).length = (xs.length - i.toNat) * F.sz := by rw [flat_len]; simp
        have hcl : c * F.sz = xs.length * F.sz + (c - xs.length) * F.sz := by rw [← Nat.add_mul]; congr 1; omega
        have hxl : xs.length * F.sz = i.toNat * F.sz + (xs.length - i.toNat) * F.sz := by rw [← Nat.add_mul]; congr 1; omega
        have h1 : ∀ u ∈ (List.replicate (xs.length - i.toNat) zx).flatMap F.leaf, u.oneCell' = true := fun u hu => by
          obtain ⟨y, _, hy⟩ := List.mem_flatMap.1 hu
          exact F.one y u hy
        have hst := run_storeCells_at P g (i.toNat * F.sz) e ((List.replicate (xs.length - i.toNat) zx).flatMap F.leaf) 0 cur w hhp (by rw [hnl, g4]; omega) h1
        simp only [Nat.add_zero] at hst
        obtain ⟨m, hm⟩ : ∃ m, xs.length - i.toNat = m + 1 := ⟨xs.length - i.toNat - 1, by omega⟩
        have hadd : (⟨g, 0, none⟩ : Addr).add (i.toNat * F.sz) = ⟨g, i.toNat * F.sz, none⟩ := by rw [add_at _ _ rfl]; simp
        have hrun : (Builtin.clear_ #[t] o2.type #[.slice (if c = i.toNat then some ⟨g, 0, none⟩ else (some (⟨g, 0, none⟩ : Addr)).map (·.add (i.toNat * F.sz))) (xs.length - i.toNat) (c - i.toNat)]).run P w =
            .ok (.tuple #[]) (w.setRow g (cur.toList.take (i.toNat * F.sz) ++ (List.replicate (xs.length - i.toNat) zx).flatMap F.leaf ++ cur.toList.drop (i.toNat * F.sz + ((List.replicate (xs.length - i.toNat) zx).flatMap F.leaf).length)).toArray) := by
          rw [if_neg hne]
          simp only [Option.map_some, hadd]
          rw [← hzcells] at hst ⊢
          rw [hm] at hst ⊢
          simp only [Builtin.clear_, List.getElem?_toArray, List.getElem?_cons_zero, Sem.run_bind, run_underlying ht, Result.andThen_ok, run_zeroValue hinf hz, hst, Sem.run_pure]
        have hmod : Mod S w (w.setRow g (cur.toList.take (i.toNat * F.sz) ++ (List.replicate (xs.length - i.toNat) zx).flatMap F.leaf ++ cur.toList.drop (i.toNat * F.sz + ((List.replicate (xs.length - i.toNat) zx).flatMap F.leaf).length)).toArray) :=
          ⟨rfl, rfl, rfl, by simp, fun k hk hn => setRow_other w g k _ (fun ek => hn (ek ▸ hg))⟩
        refine fin _ hrun (hmod.below hB fun k hk => (hSS k hk).1) (hup _ _ S hmod ?_ ?_ hB)
        · have hlen : (xs.take i.toNat ++ List.replicate (xs.length - i.toNat) zx).length = xs.length := by simp; omega
          refine ⟨⟨by rw [flat_len], .inr ⟨g, c, _, by rw [hlen], Nat.zero_le _, setRow_heap w g cur _ e _ hhp, by rw [hlen]; exact g2, g3, ?_, ?_⟩⟩, ?_⟩
          · simp only [List.size_toArray, List.length_append, List.length_take, List.length_drop, Array.length_toList, hnl]
            omega
          · rw [hlen]
            have e3 : xs.flatMap F.leaf = (xs.take i.toNat).flatMap F.leaf ++ (xs.drop i.toNat).flatMap F.leaf := by rw [← List.flatMap_append, List.take_append_drop]
            have e4 : ((xs.take i.toNat).flatMap F.leaf).length = i.toNat * F.sz := by rw [flat_len, List.length_take, Nat.min_eq_left (by omega)]
            have e5 : cur.toList.take (i.toNat * F.sz) = (xs.take i.toNat).flatMap F.leaf := by
              have := congrArg (List.take (i.toNat * F.sz)) g5
              rw [List.take_take, Nat.min_eq_left (by omega), e3, ← e4, List.take_left'] at this
              · rw [← e4]; exact this
              · rfl
            simp only []
            rw [e5, List.flatMap_append]
            have e6 : xs.length * F.sz = ((xs.take i.toNat).flatMap F.leaf ++ (List.replicate (xs.length - i.toNat) zx).flatMap F.leaf).length := by rw [List.length_append, e4, hnl]; exact hxl
            rw [e6]; exact List.take_left
          · intro k hk; simp [Value.ownBlock] at hk; subst hk; exact hg
        · intro k hk; exact ⟨.inl hk, by simpa using (hSS k hk).2⟩
  · cases hs

/-- append(nil, make([]E, k)...): a row of the call's own. -/
theorem WL.growNil {ti : TypeId} {k kn : IntKind} {z : Value} (zx : α) {Y : Operand} (d : Nat) (hx : Gv.mk zx i = some xs) (ho : o.op = .call { callee := .builtin .append, args := #[X, Y], argTypes := #[t, ti] }) (hX : rho env X = .slice none 0 0) (hY : rho env Y = .int k i)
    (ht : P.underlying t = some (.slice e)) (hti : P.underlying ti = some (.int kn)) (hinf : P.info? e = some inf) (hz : inf.zero = some z) (hsz : inf.size = F.sz) (hby : Nat.ble inf.bytes 4096 = true) (hzc : z.cells.toList = F.leaf zx)
    (hi0 : decide (i > 0) = true) (hw : want ops env o = some true) (hk : known env o = true) (hd : o.dst = some d) (hN : Nat.blt d N = true)
    (h : ∀ a c w', Ext w w' → SH w' w.heap.size [aOwn F e a c xs] → WL P ops Q N rest (put env d (.slice a xs.length c)) w') : WL P ops Q N (o :: rest) env w := by
  have hpos : 0 < i := of_decide_eq_true hi0
  unfold Gv.mk at hx
  split at hx
  · rename_i hr
    cases hx
    obtain ⟨n, rfl⟩ : ∃ n : Nat, i = (n : Int) := ⟨i.toNat, by omega⟩
    have hby' := Nat.le_of_ble_eq_true hby
    have hn1 : n ≤ 4294967296 := by have := hr.2; simp [big] at this; omega
    have h48 : n * inf.bytes ≤ 281474976710656 := by
      have : n * inf.bytes ≤ 4294967296 * 4096 := Nat.mul_le_mul hn1 hby'
      omega
    have hp := F.pos
    have hrun := Lib.run_append_nil_zeros (P := P) w t ti o.type e inf z k kn ht hti hinf hz n (by omega) (by omega) (by omega) h48
    have hzl : z.cells.size = F.sz := by have := F.len zx; rw [← hzc] at this; simpa using this
    have hE : Ext w (w.drew.alloc (.cells (Builtin.zeroCells z.cells n ++ Builtin.zeroCells z.cells (grownCap w n 0 e - n)) e)) := (Below.refl _ _).drew.alloc (Nat.le_refl _) _
    have hge := grownCap_ge w n 0 e
    have hcm : grownCap w n 0 e ≤ maxLen := grownCap_le_maxLen w n 0 e (by unfold maxLen; omega)
    have hlen : (List.replicate ((n : Int)).toNat zx).length = n := by simp
    refine WL.val (.slice (some ⟨w.heap.size, 0, none⟩) n (grownCap w n 0 e)) (w.drew.alloc (.cells (Builtin.zeroCells z.cells n ++ Builtin.zeroCells z.cells (grownCap w n 0 e - n)) e)) hw hk ?_ (env' := put env d (.slice (some ⟨w.heap.size, 0, none⟩) n (grownCap w n 0 e))) (by simp only [putO, hd, hN]) ?_
    · unfold execOp; rw [ho]
      simp only [resolve, invoke, Sem.run_bind, Sem.run_pure, Result.andThen_ok, List.map_toArray, List.map_cons, List.map_nil, hX, hY]
      simp only [builtin, Sem.run_bind, hrun, Result.andThen_ok, Sem.run_pure]
    · have := h (some ⟨w.heap.size, 0, none⟩) (grownCap w n 0 e) _ hE ?_
      · rw [hlen] at this; exact this
      · have hzcells : (Builtin.zeroCells z.cells n).toList = (List.replicate n zx).flatMap F.leaf := by
          apply List.ext_getElem?
          intro j
          have hsize : (Builtin.zeroCells z.cells n).size = n * F.sz := by rw [size_zeroCells, hzl]
          by_cases hj : j < n * F.sz
          · have hdiv : j / F.sz < n := Nat.div_lt_of_lt_mul (by rw [Nat.mul_comm]; exact hj)
            have hmod : j % F.sz < F.sz := Nat.mod_lt _ hp
            have e1 : (List.replicate n zx)[j / F.sz]? = some zx := by simp [hdiv]
            have hz' : j % F.sz < z.cells.toList.length := by rw [hzc, F.len]; exact hmod
            have e2 : (F.leaf zx)[j % F.sz]? = some (z.cells[j % z.cells.size]!) := by
              rw [← hzc, List.getElem?_eq_getElem hz', hzl]
              have : j % F.sz < z.cells.size := by rw [hzl]; exact hmod
              simp [this]
            have := flat_get F _ _ _ _ _ e1 e2
            rw [show j / F.sz * F.sz + j % F.sz = j from Nat.div_add_mod' j F.sz] at this
            rw [this]
            simp [Builtin.zeroCells, hzl, hj]
          · have e1 : ((List.replicate n zx).flatMap F.leaf).length ≤ j := by rw [flat_len]; simp; omega
            rw [List.getElem?_eq_none e1, List.getElem?_eq_none]
            rw [Array.length_toList, hsize]; omega
        refine ⟨fun k => k = w.heap.size, fun _ => False, ?_, by simp, by simp, ⟨⟨by rw [flat_len], .inr ⟨w.heap.size, grownCap w n 0 e, _, rfl, Nat.zero_le _, heap_alloc_new w.drew _, by rw [hlen]; simpa using hge, hcm, ?_, ?_⟩⟩, ?_⟩, trivial⟩
        · rintro k rfl; exact ⟨Nat.le_refl _, by simp⟩
        · rw [Array.size_append, size_zeroCells, size_zeroCells, hzl, ← Nat.add_mul]; congr 1; omega
        · rw [hlen, Int.toNat_natCast]
          simp only [Array.toList_append]
          rw [hzcells]
          have : n * F.sz = ((List.replicate n zx).flatMap F.leaf).length := by rw [flat_len]; simp
          rw [this]; exact List.take_left
        · intro k hk; simp [Value.ownBlock] at hk; exact hk.symm
  · cases hx

/-! ### Rows of slices that are read -/

def fRow : Nl (List Int) := ⟨1, by decide, fun x => [.row x], fun _ => rfl, fun x v hv => by simp at hv⟩

theorem nest_Row {a : Option Addr} {xs : List (List Int)} {i : Int} {x : List Int} (h : Rd fRow.ty w a xs) (hx : idx xs i = some x) :
    ∃ a0 c0, (∀ j v, ([.slice a0 x.length c0] : List Value)[j]? = some v → w.cell? (at_ a (i.toNat * 1 + j)) = some v) ∧ Rd fInt.ty w a0 x ∧ x.length ≤ c0 := by
  obtain ⟨vs, hl, hc⟩ := Rd.nest h hx
  obtain ⟨_, _, rfl, ⟨a0, c0, rfl, h0, e0⟩, rfl⟩ := hl
  exact ⟨a0, c0, hc, h0, e0⟩

def RowsAt (w : World) : List (List Int) → List Value → Prop
  | [], vs => vs = []
  | xs :: xss, vs => ∃ a c vs', vs = .slice a xs.length c :: vs' ∧ Rd fInt.ty w a xs ∧ xs.length ≤ c ∧ RowsAt w xss vs'

theorem RowsAt.get {w : World} : ∀ {xss : List (List Int)} {vs : List Value}, RowsAt w xss vs → vs.length = xss.length ∧ ∀ (i : Nat) (x : List Int), xss[i]? = some x → ∃ (a : Option Addr) (c : Nat), vs[i]? = some (Value.slice a x.length c) ∧ Rd fInt.ty w a x ∧ x.length ≤ c
  | [], vs, h => by have h' : vs = [] := h; subst h'; simp
  | xs :: xss, vs, ⟨a, c, vs', h1, h2, h3, h4⟩ => by
    subst h1
    obtain ⟨g1, g2⟩ := RowsAt.get h4
    refine ⟨by simp [g1], fun i x hx => ?_⟩
    cases i with
    | zero => simp at hx; subst hx; exact ⟨a, c, rfl, h2, h3⟩
    | succ i => simp only [List.getElem?_cons_succ] at hx ⊢; exact g2 i x hx

/-- A row of slices that are read. -/
theorem WL.rowsRow (e : TypeId) (xss : List (List Int)) (vs : List Value) (n : Nat) (cs : Array Value) (d : Nat) (hR : RowsAt w xss vs) (hcs : cs.toList = vs) (hn : xss.length = n)
    (hr : (execOp (rho env) o).run P w = .ok (.value (.slice (some ⟨w.heap.size, 0, none⟩) n n)) (w.alloc (.cells cs e)))
    (hw : want ops env o = some true) (hk : known env o = true) (hd : o.dst = some d) (hN : Nat.blt d N = true)
    (h : ∀ a c w', Ext w w' → Rd fRow.ty w' a xss → xss.length ≤ c → WL P ops Q N rest (put env d (.slice a xss.length c)) w') : WL P ops Q N (o :: rest) env w := by
  subst hn
  have hE := Ext.alloc w (.cells cs e)
  refine WL.val _ _ hw hk hr (env' := put env d (.slice (some ⟨w.heap.size, 0, none⟩) xss.length xss.length)) (by simp only [putO, hd, hN]) (h _ _ _ hE ?_ (Nat.le_refl _))
  obtain ⟨g1, g2⟩ := hR.get
  intro i x hx
  obtain ⟨a, c, h1, h2, h3⟩ := g2 i x hx
  refine ⟨rfl, by simp [ba], [.slice a x.length c], ⟨_, _, rfl, ⟨a, c, rfl, h2.below hE, h3⟩, rfl⟩, fun j v hv => ?_⟩
  have hj : j = 0 := by
    cases j with
    | zero => rfl
    | succ j => simp at hv
  subst hj
  simp at hv; subst hv
  have : (w.alloc (.cells cs e)).heap[w.heap.size]? = some (.cells cs e) := heap_alloc_new w _
  simp only [at_, ba, Option.getD_some, World.cell?, this]
  show cs[0 + (i * 1 + 0)]? = _
  rw [show 0 + (i * 1 + 0) = i by omega, ← Array.getElem?_toList, hcs, h1]

end
end Go.Gv
