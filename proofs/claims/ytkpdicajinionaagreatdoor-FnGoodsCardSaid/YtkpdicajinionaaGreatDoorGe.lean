/- Operations that make or write memory, for the small program logic. No program is named here. -/
import Derived.Test.YtkpdicajinionaaGreatDoorGs
namespace Go.Gv
open Go Go.RowKit

section
variable {P : Program} {ops : Array Oper} {Q : Exit → Act → World → Prop} {N : Nat} {env env' : Env} {w w' : World} {l rest : List Oper} {o : Oper} {B : Nat} {L : List Asrt}

theorem alloc_eq (w : World) (o : Obj) : w.alloc o = { w with heap := w.heap.push o } := rfl

theorem flat_len {α : Type} (F : Fl α) (xs : List α) : (xs.flatMap F.leaf).length = xs.length * F.sz := by
  induction xs with
  | nil => simp
  | cons x xs ih => simp [ih, F.len, Nat.add_mul]; omega

theorem flat_get {α : Type} (F : Fl α) : ∀ (xs : List α) (i j : Nat) (x : α) (v : Value), xs[i]? = some x → (F.leaf x)[j]? = some v → (xs.flatMap F.leaf)[i * F.sz + j]? = some v
  | [], i, j, x, v, h, _ => by simp at h
  | y :: ys, 0, j, x, v, h, hv => by
    simp at h; subst h
    have hj : j < (F.leaf y).length := by
      rcases Nat.lt_or_ge j (F.leaf y).length with hl | hl
      · exact hl
      · simp [List.getElem?_eq_none hl] at hv
    simp only [List.flatMap_cons, Nat.zero_mul, Nat.zero_add]
    rw [List.getElem?_append_left hj]; exact hv
  | y :: ys, i + 1, j, x, v, h, hv => by
    simp only [List.getElem?_cons_succ] at h
    have ih := flat_get F ys i j x v h hv
    simp only [List.flatMap_cons]
    have hl := F.len y
    rw [List.getElem?_append_right (by rw [hl, Nat.add_mul]; omega)]
    rw [show (i + 1) * F.sz + j - (F.leaf y).length = i * F.sz + j by rw [hl, Nat.add_mul]; omega]
    exact ih

theorem SH.newRow {α : Type} {F : Fl α} {e : TypeId} {cs : Array Value} {n : Nat} {xs : List α} (hn : xs.length = n) (hm : n ≤ maxLen) (hcs : cs.toList = xs.flatMap F.leaf) :
    SH (w.alloc (.cells cs e)) w.heap.size [aOwn F e (some ⟨w.heap.size, 0, none⟩) n xs] := by
  subst hn
  refine ⟨fun k => k = w.heap.size, fun _ => False, ?_, by simp, by simp, ?_, trivial⟩
  · rintro k rfl; exact ⟨Nat.le_refl _, by simp⟩
  · refine ⟨⟨flat_len F xs, .inr ⟨w.heap.size, xs.length, cs, rfl, Nat.zero_le _, heap_alloc_new w _, Nat.le_refl _, hm, ?_, ?_⟩⟩, ?_⟩
    · have := flat_len F xs; rw [← hcs] at this; simpa using this
    · rw [hcs, ← flat_len F xs]; exact List.take_length
    · intro k hk; simp [Value.ownBlock] at hk; exact hk.symm

/-- A row of the call's own, filled. -/
theorem WL.row {α : Type} (F : Fl α) (e : TypeId) (xs : List α) (n : Nat) (cs : Array Value) (d : Nat) (hr : (execOp (rho env) o).run P w = .ok (.value (.slice (some ⟨w.heap.size, 0, none⟩) n n)) (w.alloc (.cells cs e)))
    (hw : want ops env o = some true) (hk : known env o = true) (hd : o.dst = some d) (hN : Nat.blt d N = true) (hn : xs.length = n) (hm : Nat.ble n 16777216 = true) (hcs : cs.toList = xs.flatMap F.leaf)
    (h : ∀ a c w', Ext w w' → SH w' w.heap.size [aOwn F e a c xs] → WL P ops Q N rest (put env d (.slice a xs.length c)) w') : WL P ops Q N (o :: rest) env w := by
  have hm' : n ≤ maxLen := by have := Nat.le_of_ble_eq_true hm; unfold maxLen; omega
  subst hn
  refine WL.val _ _ hw hk hr (env' := put env d (.slice (some ⟨w.heap.size, 0, none⟩) xs.length xs.length)) (by simp only [putO, hd, hN]) ?_
  exact h _ _ _ (Ext.alloc w _) (SH.newRow rfl hm' hcs)

/-- A row of n zero elements. -/
theorem WL.make {α : Type} (F : Fl α) {t e : TypeId} {inf : TypeInfo} {z : Value} {zx : α} {X Y : Operand} {k k' : IntKind} {i : Int} {xs : List α} (d : Nat) (hx : Gv.mk zx i = some xs) (ho : o.op = .makeSlice t X Y)
    (hX : rho env X = .int k i) (hY : rho env Y = .int k' i) (ht : P.underlying t = some (.slice e)) (hi : P.info? e = some inf) (hz : inf.zero = some z) (hsz : inf.size = F.sz) (hby : Nat.ble inf.bytes 4096 = true) (hzc : z.cells.toList = F.leaf zx)
    (hw : want ops env o = some true) (hk : known env o = true) (hd : o.dst = some d) (hN : Nat.blt d N = true)
    (h : ∀ a c w', Ext w w' → SH w' w.heap.size [aOwn F e a c xs] → WL P ops Q N rest (put env d (.slice a xs.length c)) w') : WL P ops Q N (o :: rest) env w := by
  unfold Gv.mk at hx
  split at hx
  · rename_i hr
    cases hx
    have hby' := Nat.le_of_ble_eq_true hby
    obtain ⟨h0, h1⟩ := hr
    have h1' : i ≤ 4294967296 := by simpa [big] using h1
    have hb : (inf.bytes : Int) * i ≤ 281474976710656 := by
      have : (inf.bytes : Int) * i ≤ 4096 * 4294967296 := Int.mul_le_mul (by omega) h1' h0 (by omega)
      omega
    have hrun := run_make (P := P) w t e inf z ht hi hz k k' i i h0 (Int.le_refl _) hb (by omega)
    have hcs : (madeCells z.cells (i.toNat * inf.size)).toList = (List.replicate i.toNat zx).flatMap F.leaf := by
      have hl : z.cells.size = F.sz := by have := F.len zx; rw [← hzc] at this; simpa using this
      apply List.ext_getElem?
      intro j
      have hp := F.pos
      by_cases hj : j < i.toNat * F.sz
      · have hdiv : j / F.sz < i.toNat := Nat.div_lt_of_lt_mul (by rw [Nat.mul_comm]; exact hj)
        have hmod : j % F.sz < F.sz := Nat.mod_lt _ hp
        have e1 : (List.replicate i.toNat zx)[j / F.sz]? = some zx := by simp [hdiv]
        have hz' : j % F.sz < z.cells.toList.length := by rw [hzc, F.len]; exact hmod
        have e2 : (F.leaf zx)[j % F.sz]? = some (z.cells[j % z.cells.size]!) := by
          rw [← hzc, List.getElem?_eq_getElem hz', hl]
          have : j % F.sz < z.cells.size := by rw [hl]; exact hmod
          simp [this]
        have := flat_get F _ _ _ _ _ e1 e2
        rw [show j / F.sz * F.sz + j % F.sz = j from Nat.div_add_mod' j F.sz] at this
        rw [this]
        simp [madeCells, hsz, hj]
      · have e1 : ((List.replicate i.toNat zx).flatMap F.leaf).length ≤ j := by rw [flat_len]; simp; omega
        rw [List.getElem?_eq_none e1]
        simp [madeCells, hsz]; omega
    have hlen : (List.replicate i.toNat zx).length = i.toNat := by simp
    have hm : i.toNat ≤ maxLen := by unfold maxLen; omega
    refine WL.val (.slice (some ⟨w.heap.size, 0, none⟩) i.toNat i.toNat) _ hw hk ?_ (env' := put env d (.slice (some ⟨w.heap.size, 0, none⟩) i.toNat i.toNat)) (by simp only [putO, hd, hN])
      (by have := h (some ⟨w.heap.size, 0, none⟩) i.toNat _ (Ext.alloc w (.cells (madeCells z.cells (i.toNat * inf.size)) e)) (SH.newRow hlen hm hcs); rw [hlen] at this; exact this)
    unfold execOp; rw [ho]
    simp only [hX, hY, Sem.run_bind, hrun, Result.andThen_ok, Sem.run_pure]
  · cases hx

theorem own_shape {α : Type} {F : Fl α} {e : TypeId} {a : Option Addr} {c : Nat} {xs : List α} {S : Nat → Prop} (h : (aOwn F e a c xs).on w S) :
    (a = none ∧ xs = [] ∧ c = 0) ∨ ∃ g cur, a = some ⟨g, 0, none⟩ ∧ S g ∧ w.heap[g]? = some (.cells cur e (0, 0)) ∧ xs.length ≤ c ∧ c ≤ maxLen ∧ cur.size = c * F.sz ∧ cur.toList.take (xs.length * F.sz) = xs.flatMap F.leaf := by
  obtain ⟨⟨h1, h2⟩, h3⟩ := h
  rcases h2 with ⟨h4, h5⟩ | ⟨g, cap, cur, h4, _, h5, h6, h7, h8, h9⟩
  · left; injection h4 with e1 e2 e3; exact ⟨e1, List.eq_nil_of_length_eq_zero h5, e3⟩
  · right; injection h4 with e1 e2 e3; subst e1 e3
    exact ⟨g, cur, rfl, h3 g rfl, h5, h6, h7, h8, h9⟩

/-- What is owned may be read. -/
theorem SH.rd {α : Type} {F : Fl α} {e : TypeId} {a : Option Addr} {c : Nat} {xs : List α} (h : SH w B (aOwn F e a c xs :: L)) : Rd F.ty w a xs := by
  obtain ⟨S, hA, hS, -⟩ := h.upd
  rcases own_shape hA with ⟨_, rfl, _⟩ | ⟨g, cur, rfl, hg, hh, h1, h2, h3, h4⟩
  · exact Rd.nil _ _ _
  · intro i x hx
    refine ⟨rfl, (hS g hg).2, F.leaf x, rfl, fun j v hv => ?_⟩
    have hf := flat_get F xs i j x v hx hv
    rw [← h4, List.getElem?_take] at hf
    split at hf
    · show w.cell? ⟨g, 0 + (i * F.sz + j), none⟩ = some v
      rw [Nat.zero_add]
      simp only [World.cell?, hh]
      simpa using hf
    · cases hf

theorem SH.le {α : Type} {F : Fl α} {e : TypeId} {a : Option Addr} {c : Nat} {xs : List α} (h : SH w B (aOwn F e a c xs :: L)) : xs.length ≤ c ∧ (a = none → xs = []) := by
  obtain ⟨S, hA, hS, -⟩ := h.upd
  rcases own_shape hA with ⟨_, rfl, _⟩ | ⟨g, cur, rfl, hg, hh, h1, h2, h3, h4⟩
  · simp
  · exact ⟨h1, by simp⟩

theorem rd_news {α : Type} {F : Fl α} {a : Option Addr} {ys : List α} (h : Rd F.ty w a ys) (hne : ys ≠ []) : ∃ p, a = some p ∧ p.spot = none ∧ ∀ j u, (ys.flatMap F.leaf)[j]? = some u → w.cell? (p.add j) = some u := by
  obtain ⟨y, ys', rfl⟩ := List.exists_cons_of_ne_nil hne
  have h0 := h 0 y rfl
  refine ⟨at_ a 0, h0.1, rfl, fun j u hu => ?_⟩
  have hp := F.pos
  have hj : j < (y :: ys').length * F.sz := by
    rw [← flat_len F]
    rcases Nat.lt_or_ge j ((y :: ys').flatMap F.leaf).length with hl | hl
    · exact hl
    · rw [List.getElem?_eq_none hl] at hu; cases hu
  have hdiv : j / F.sz < (y :: ys').length := Nat.div_lt_of_lt_mul (by rw [Nat.mul_comm]; exact hj)
  have hmod : j % F.sz < F.sz := Nat.mod_lt _ hp
  have e1 : (y :: ys')[j / F.sz]? = some ((y :: ys')[j / F.sz]) := List.getElem?_eq_getElem hdiv
  have hl : j % F.sz < (F.leaf ((y :: ys')[j / F.sz])).length := by rw [F.len]; exact hmod
  have e2 : (F.leaf ((y :: ys')[j / F.sz]))[j % F.sz]? = some ((F.leaf ((y :: ys')[j / F.sz]))[j % F.sz]) := List.getElem?_eq_getElem hl
  have e3 := flat_get F _ _ _ _ _ e1 e2
  rw [Nat.div_add_mod' j F.sz, hu] at e3
  obtain ⟨_, _, vs, h3, h4⟩ := h _ _ e1
  have h5 := h4 (j % F.sz) _ (by rw [show vs = _ from h3]; exact e2)
  rw [add_at _ _ rfl]
  have : (at_ a (j / F.sz * F.ty.sz + j % F.sz)) = ⟨(at_ a 0).block, (at_ a 0).off + j, none⟩ := by
    show at_ a (j / F.sz * F.sz + j % F.sz) = _
    rw [Nat.div_add_mod' j F.sz]; simp [at_]
  rw [← this]
  exact h5.trans e3.symm

/-- append: to a row of the call's own, from a slice that is read. -/
theorem WL.append {α : Type} {F : Fl α} {t e : TypeId} {inf : TypeInfo} {z : Value} {a a2 : Option Addr} {c c2 : Nat} {xs ys zs : List α} {X Y : Operand} (d : Nat)
    (hS : SH w B (aOwn F e a c xs :: L)) (hB : B ≤ w.heap.size) (hR : Rd F.ty w a2 ys) (hz : app xs ys = some zs)
    (ho : o.op = .call { callee := .builtin .append, args := #[X, Y], argTypes := #[t, t] }) (hX : rho env X = .slice a xs.length c) (hY : rho env Y = .slice a2 ys.length c2)
    (ht : P.underlying t = some (.slice e)) (hi : P.info? e = some inf) (hzv : inf.zero = some z) (hsz : inf.size = F.sz) (hby : Nat.ble inf.bytes 4096 = true) (hzs : z.cells.size = F.sz)
    (hw : want ops env o = some true) (hk : known env o = true) (hd : o.dst = some d) (hN : Nat.blt d N = true)
    (h : ∀ a' c' w', Below B w w' → SH w' B (aOwn F e a' c' zs :: L) → WL P ops Q N rest (put env d (.slice a' zs.length c')) w') : WL P ops Q N (o :: rest) env w := by
  obtain ⟨S, hA, hSS, hup⟩ := hS.upd
  have hby' := Nat.le_of_ble_eq_true hby
  have hlen : xs.length + ys.length ≤ big := by
    unfold app at hz; split at hz
    · assumption
    · cases hz
  have hzz : xs ++ ys = zs := by
    unfold app at hz; rw [if_pos hlen] at hz; exact Option.some.inj hz
  subst hzz
  have hlen' : xs.length + ys.length ≤ 4294967296 := hlen
  -- the run of the builtin
  have fin : ∀ (a' : Option Addr) (c' : Nat) (w' : World), (Builtin.append_ #[t, t] o.type #[.slice a xs.length c, .slice a2 ys.length c2]).run P w = .ok (.slice a' (xs ++ ys).length c') w' →
      Below B w w' → SH w' B (aOwn F e a' c' (xs ++ ys) :: L) → WL P ops Q N (o :: rest) env w := by
    intro a' c' w' hrun hb hS'
    refine WL.val (.slice a' (xs ++ ys).length c') w' hw hk ?_ (env' := put env d (.slice a' (xs ++ ys).length c')) (by simp only [putO, hd, hN]) (h a' c' w' hb hS')
    unfold execOp; rw [ho]
    simp only [resolve, invoke, Sem.run_bind, Sem.run_pure, Result.andThen_ok, List.map_toArray, List.map_cons, List.map_nil, hX, hY]
    simp only [builtin, Sem.run_bind, hrun, Result.andThen_ok, Sem.run_pure]
  have hlz : (xs ++ ys).length = xs.length + ys.length := List.length_append
  have hflat : (xs ++ ys).flatMap F.leaf = xs.flatMap F.leaf ++ ys.flatMap F.leaf := List.flatMap_append
  have hzc : ∀ n, (Builtin.zeroCells z.cells n).size = n * F.sz := fun n => by rw [size_zeroCells, hzs]
  have hmx : xs.length + ys.length ≤ maxLen := by unfold maxLen; omega
  have hbytes : (xs.length + ys.length) * inf.bytes ≤ 140737488355328 := by
    have : (xs.length + ys.length) * inf.bytes ≤ 4294967296 * 4096 := Nat.mul_le_mul hlen' hby'
    omega
  by_cases hys : ys = []
  · subst hys
    -- nothing is appended
    have hrun : (Builtin.append_ #[t, t] o.type #[.slice a xs.length c, .slice a2 0 c2]).run P w = .ok (.slice a xs.length c) w := by
      have hle : xs.length ≤ c := by
        rcases own_shape hA with ⟨rfl, rfl, rfl⟩ | ⟨g, cur, rfl, hg, hh, h1, h2, h3, h4⟩
        · simp
        · exact h1
      have hf : (Builtin.firstCells inf.size 0 (.slice a2 0 c2)).run P w = .ok #[] w := by
        cases a2 <;> simp [Builtin.firstCells, loadCells, loadCellsFrom]
      cases a <;> simp [Builtin.append_, run_underlying ht, run_sizeOf' hi, Builtin.lenOf, hle, hf, storeCells]
    refine fin a c w (by simpa using hrun) (Below.refl _ _) (by simpa using hS)
  · obtain ⟨p, rfl, hsp, hnews⟩ := rd_news hR hys
    have hy0 : 0 < ys.length := List.length_pos_iff.2 hys
    have hl : (ys.flatMap F.leaf).length = ys.length * inf.size := by rw [flat_len, hsz]
    have hone : ∀ u ∈ ys.flatMap F.leaf, u.oneCell' = true := fun u hu => by
      obtain ⟨y, _, hy⟩ := List.mem_flatMap.1 hu
      exact F.one y u hy
    have newS : ∀ (cur : Array Value) (cap : Nat), xs.length + ys.length ≤ cap → cap ≤ maxLen → cur.size = cap * F.sz → cur.toList.take ((xs.length + ys.length) * F.sz) = (xs ++ ys).flatMap F.leaf →
        SH (w.drew.alloc (.cells cur e)) B (aOwn F e (some ⟨w.heap.size, 0, none⟩) cap (xs ++ ys) :: L) ∧ Below B w (w.drew.alloc (.cells cur e)) := by
      intro cur cap g1 g2 g3 g4
      have hE : Ext w (w.drew.alloc (.cells cur e)) := (Below.refl _ _).drew.alloc (Nat.le_refl _) _
      refine ⟨hup _ _ (fun k => k = w.heap.size) hE.mod ?_ ?_ hB, hE.mono hB⟩
      · refine ⟨⟨by rw [flat_len], .inr ⟨w.heap.size, cap, cur, by rw [hlz], Nat.zero_le _, heap_alloc_new w.drew _, by rw [hlz]; exact g1, g2, g3, by rw [hlz]; exact g4⟩⟩, ?_⟩
        intro k hk; simp [Value.ownBlock] at hk; exact hk.symm
      · rintro k rfl; exact ⟨.inr (Nat.le_refl _), by simp⟩
    rcases own_shape hA with ⟨rfl, rfl, rfl⟩ | ⟨g, cur, rfl, hg, hh, h1, h2, h3, h4⟩
    · have hr := run_append_nil (P := P) w t o.type e inf z ht hi hzv p ys.length c2 (ys.flatMap F.leaf) hl hnews hy0 (by omega) (by have := hbytes; simp at this; omega)
      have hge := grownCap_ge w ys.length 0 e
      have hcm : grownCap w ys.length 0 e ≤ maxLen := grownCap_le_maxLen w ys.length 0 e (by simpa using hmx)
      obtain ⟨s1, s2⟩ := newS ((ys.flatMap F.leaf).toArray ++ Builtin.zeroCells z.cells (grownCap w ys.length 0 e - ys.length)) (grownCap w ys.length 0 e) (by simpa using hge) hcm
        (by rw [Array.size_append, hzc]; simp only [List.size_toArray]; rw [hl, hsz, ← Nat.add_mul]; congr 1; omega)
        (by simp only [List.length_nil, Nat.zero_add, List.nil_append, Array.toList_append]; rw [← flat_len F ys]; exact List.take_left)
      exact fin _ _ _ (by simpa using hr) s2 s1
    · by_cases hroom : xs.length + ys.length ≤ c
      · have hfit : xs.length * inf.size + (ys.flatMap F.leaf).length ≤ cur.size := by rw [hl, h3, hsz, ← Nat.add_mul]; exact Nat.mul_le_mul_right _ hroom
        have hr := run_append_room (P := P) w t o.type e inf ht hi g xs.length c cur hh p ys.length c2 (ys.flatMap F.leaf) hl hnews hone hroom hfit
        rw [hsz, h4] at hr
        have hm : Mod S w (w.setRow g (xs.flatMap F.leaf ++ ys.flatMap F.leaf ++ cur.toList.drop (xs.length * F.sz + (ys.flatMap F.leaf).length)).toArray) :=
          ⟨rfl, rfl, rfl, by simp, fun k hk hn => setRow_other w g k _ (fun ek => hn (ek ▸ hg))⟩
        refine fin (some ⟨g, 0, none⟩) c _ (by rw [hlz]; exact hr) (hm.below hB fun k hk => (hSS k hk).1) (hup _ _ S hm ?_ ?_ hB)
        · refine ⟨⟨by rw [flat_len], .inr ⟨g, c, _, rfl, Nat.zero_le _, setRow_heap w g cur _ e _ hh, by rw [hlz]; exact hroom, h2, ?_, ?_⟩⟩, ?_⟩
          · rw [hl, hsz] at hfit ⊢
            simp only [List.size_toArray, List.length_append, List.length_drop, Array.length_toList]
            rw [hl, hsz, flat_len]; omega
          · rw [hlz, hflat]
            simp only []
            rw [show (xs.length + ys.length) * F.sz = (xs.flatMap F.leaf ++ ys.flatMap F.leaf).length by rw [List.length_append, flat_len, flat_len, Nat.add_mul]]
            exact List.take_left
          · intro k hk; simp [Value.ownBlock] at hk; subst hk; exact hg
        · intro k hk; exact ⟨.inl hk, by simpa using (hSS k hk).2⟩
      · have holds : ∀ j u, (xs.flatMap F.leaf)[j]? = some u → w.cell? ((⟨g, 0, none⟩ : Addr).add j) = some u := by
          intro j u hu
          rw [add_at _ _ rfl]
          simp only [Nat.zero_add, World.cell?, hh]
          rw [← h4, List.getElem?_take] at hu
          split at hu
          · simpa using hu
          · cases hu
        have hr := run_append_grow (P := P) w t o.type e inf z ht hi hzv ⟨g, 0, none⟩ xs.length c (xs.flatMap F.leaf) (by rw [flat_len, hsz]) holds p ys.length c2 (ys.flatMap F.leaf) hl hnews (by omega) (by omega) (growslice_fits (by omega) hbytes)
        have hge := grownCap_ge w (xs.length + ys.length) c e
        have hcm : grownCap w (xs.length + ys.length) c e ≤ maxLen := grownCap_le_maxLen w _ c e hmx
        obtain ⟨s1, s2⟩ := newS ((xs.flatMap F.leaf).toArray ++ (ys.flatMap F.leaf).toArray ++ Builtin.zeroCells z.cells (grownCap w (xs.length + ys.length) c e - (xs.length + ys.length))) (grownCap w (xs.length + ys.length) c e) hge hcm
          (by rw [Array.size_append, Array.size_append, hzc]; simp only [List.size_toArray]; rw [hl, flat_len, hsz, ← Nat.add_mul, ← Nat.add_mul]; congr 1; omega)
          (by
            simp only [Array.toList_append]
            rw [hflat, show (xs.length + ys.length) * F.sz = (xs.flatMap F.leaf ++ ys.flatMap F.leaf).length by rw [List.length_append, flat_len, flat_len, Nat.add_mul]]
            exact List.take_left)
        exact fin _ _ _ (by rw [hlz]; exact hr) s2 s1

end
end Go.Gv
