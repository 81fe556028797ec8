/- slices.Insert at rows of the call's own: what copy does to a row, how a row with a part put in is a row again. No program is named here. -/
import Derived.Test.YtkpdicajinionaaGreatDoorGz
import Derived.Lib.AppendZerosOnto
import Derived.Lib.Overlaps
namespace Go.Gv
open Go Go.RowKit

/-- What Insert gives. -/
def insM {α : Type} (xs : List α) (i : Int) (vs : List α) : Option (List α) :=
  if 0 ≤ i ∧ i ≤ (xs.length : Int) ∧ vs.isEmpty = false ∧ xs.length + vs.length ≤ big then some (xs.take i.toNat ++ vs ++ xs.drop i.toNat) else none

theorem insM_some {α : Type} {xs vs r : List α} {i : Int} (h : insM xs i vs = some r) :
    ∃ k : Nat, i = (k : Int) ∧ k ≤ xs.length ∧ 0 < vs.length ∧ xs.length + vs.length ≤ 4294967296 ∧ r = xs.take k ++ vs ++ xs.drop k := by
  unfold insM at h
  split at h
  · rename_i hh
    obtain ⟨h1, h2, h3, h4⟩ := hh
    refine ⟨i.toNat, by omega, by omega, ?_, h4, (Option.some.inj h).symm⟩
    cases vs with
    | nil => simp at h3
    | cons v vs => simp
  · cases h

/-- A part of a list, put in place of what stood there. -/
def ins {α : Type} (l : List α) (o : Nat) (cs : List α) : List α := l.take o ++ cs ++ l.drop (o + cs.length)

theorem ins_len {α : Type} {l : List α} {o : Nat} {cs : List α} (h : o + cs.length ≤ l.length) : (ins l o cs).length = l.length := by
  simp only [ins, List.length_append, List.length_take, List.length_drop]; omega

theorem ins_take {α : Type} {l : List α} {o : Nat} {cs : List α} {q : Nat} (h : o + cs.length ≤ l.length) (hq : q ≤ o) : (ins l o cs).take q = l.take q := by
  unfold ins
  rw [List.append_assoc, List.take_append_of_le_length (by simp; omega), List.take_take, Nat.min_eq_left hq]

theorem ins_take2 {α : Type} {l : List α} {o : Nat} {cs : List α} (h : o + cs.length ≤ l.length) : (ins l o cs).take (o + cs.length) = l.take o ++ cs := by
  unfold ins
  have e : o + cs.length = (l.take o ++ cs).length := by simp; omega
  rw [e]; exact List.take_left

theorem ins_drop {α : Type} {l : List α} {o : Nat} {cs : List α} (h : o + cs.length ≤ l.length) : (ins l o cs).drop o = cs ++ l.drop (o + cs.length) := by
  unfold ins
  rw [List.append_assoc]
  have e : o = (l.take o).length := by simp; omega
  conv => lhs; rw [e]
  rw [List.drop_left', ← e]
  simp

theorem ins_room {α : Type} {l A V X : List α} (hA : l.take A.length = A) (hT : A.length + V.length + X.length ≤ l.length) :
    (ins (ins l (A.length + V.length) X) A.length V).take (A.length + V.length + X.length) = A ++ V ++ X := by
  have h1 : (ins l (A.length + V.length) X).take A.length = A := by rw [ins_take hT (Nat.le_add_right _ _), hA]
  have h2 : (ins l (A.length + V.length) X).drop (A.length + V.length) = X ++ l.drop (A.length + V.length + X.length) := ins_drop hT
  conv => lhs; rw [ins, h1, h2]
  rw [← List.append_assoc]
  have e : A.length + V.length + X.length = (A ++ V ++ X).length := by simp; omega
  rw [e]; exact List.take_left

theorem ins_grow {α : Type} {l A V X : List α} (hA : l.take A.length = A) (hT : A.length + V.length + X.length ≤ l.length) :
    (ins (ins l A.length V) (A.length + V.length) X).take (A.length + V.length + X.length) = A ++ V ++ X := by
  have hl : (ins l A.length V).length = l.length := ins_len (by omega)
  rw [ins_take2 (by rw [hl]; exact hT), ins_take2 (by omega), hA]

section
variable {P : Program} {ops : Array Oper} {Q : Exit → Act → World → Prop} {N : Nat} {env env' : Env} {w w' : World} {l rest : List Oper} {o : Oper} {B : Nat} {L : List Asrt} {α : Type} {F : Fl α} {t e : TypeId} {inf : TypeInfo} {a : Option Addr} {c : Nat} {xs : List α}

theorem run_boundsC {isSlice : Bool} {len cap : Nat} {lo hi : Option Operand} {i j : Int} (hlo : boundV env 0 lo i) (hhi : boundV env (len : Int) hi j) (h1 : 0 ≤ i) (h2 : i ≤ j) (h3 : j ≤ (cap : Int)) (w : World) :
    (Instr.sliceBounds isSlice len cap (lo.map (rho env)) (hi.map (rho env)) none).run P w = .ok (i.toNat, j.toNat, cap) w := by
  have g0 : (0 : Int) ≤ j := by omega
  have g2 : i ≤ ((j.toNat : Nat) : Int) := by omega
  cases lo <;> cases hi <;> simp only [boundV] at hlo hhi <;> (try obtain ⟨k1, hlo⟩ := hlo) <;> (try obtain ⟨k2, hhi⟩ := hhi) <;>
    simp_all [Instr.sliceBounds, Instr.sliceBound, asIntOf]

/-- A part of a slice, up to its capacity: the value alone. -/
theorem ST.cut {len : Nat} {i j : Int} {X : Operand} {lo hi : Option Operand} (ho : o.op = .slice t X lo hi none) (hX : rho env X = .slice a len c) (ht : P.underlying t = some (.slice e)) (hinf : P.info? e = some inf) (hsz : inf.size = F.sz)
    (hlo : boundV env 0 lo i) (hhi : boundV env (len : Int) hi j) (h1 : 0 ≤ i) (h2 : i ≤ j) (h3 : j ≤ (c : Int)) :
    ST P w env o (.slice (if c = i.toNat then a else a.map (·.add (i.toNat * F.sz))) (j.toNat - i.toNat) (c - i.toNat)) := by
  intro w' _
  have hb := run_boundsC (P := P) (isSlice := true) (len := len) (cap := c) hlo hhi h1 h2 h3 w'
  unfold execOp; rw [ho]
  simp only [hX, Instr.sliceAt, Sem.run_bind, run_underlying ht, Result.andThen_ok, Instr.slice, Option.map_none, hb, run_sizeOf' hinf, hsz, Sem.run_pure]

theorem cutAt {g k i sz : Nat} (h : ¬ c = i) : (if c = i then some (⟨g, k, none⟩ : Addr) else (some (⟨g, k, none⟩ : Addr)).map (·.add (i * sz))) = some ⟨g, k + i * sz, none⟩ := by
  rw [if_neg h, Option.map_some, add_at _ _ rfl]

theorem run_copyH {dT sT ty : TypeId} {sz : Nat} (hu : P.underlying dT = some (.slice e)) (hi : P.info? e = some inf) (hsz : inf.size = sz) (g k dLen dCap : Nat) (p : Addr) (sLen sCap : Nat) (cur : Array Value) (cs : List Value)
    (hg : w.heap[g]? = some (.cells cur e (0, 0))) (m : Nat) (hm : Nat.min sLen dLen = m) (hn : m * sz = cs.length) (hsrc : ∀ j v, cs[j]? = some v → w.cell? (p.add j) = some v) (hfit : k + cs.length ≤ cur.size) (h1 : ∀ v ∈ cs, v.oneCell' = true) :
    (Builtin.copy_ #[dT, sT] ty #[.slice (some ⟨g, k, none⟩) dLen dCap, .slice (some p) sLen sCap]).run P w = .ok (goInt m) (w.setRow g (ins cur.toList k cs).toArray) := by
  subst hm
  have hl := run_loadCells_list (P := P) w p cs hsrc
  have hst := run_storeCells_at P g k e cs 0 cur w hg (by simpa using hfit) h1
  simp only [Nat.add_zero] at hst
  simp [Builtin.copy_, run_underlying hu, Builtin.lenOf, Builtin.firstCells, run_sizeOf' hi, hsz, hn, hl, hst, ins]

/-- copy(d, s) into a block of cells that is the call's own. -/
theorem WL.copyH {t' : TypeId} {X Y : Operand} (d g k dLen dCap : Nat) (p : Addr) (sLen sCap : Nat) (cur : Array Value) (cs : List Value) (m : Nat)
    (ho : o.op = .call { callee := .builtin .copy, args := #[X, Y], argTypes := #[t, t'] }) (hX : rho env X = .slice (some ⟨g, k, none⟩) dLen dCap) (hY : rho env Y = .slice (some p) sLen sCap)
    (hu : P.underlying t = some (.slice e)) (hi : P.info? e = some inf) (hsz : inf.size = F.sz)
    (hg : w.heap[g]? = some (.cells cur e (0, 0))) (hm : Nat.min sLen dLen = m) (hn : m * F.sz = cs.length) (hsrc : ∀ j v, cs[j]? = some v → w.cell? (p.add j) = some v) (hfit : k + cs.length ≤ cur.size) (h1 : ∀ v ∈ cs, v.oneCell' = true)
    (hw : want ops env o = some true) (hk : known env o = true) (hd : o.dst = some d) (hN : Nat.blt d N = true)
    (h : WL P ops Q N rest (put env d (goInt m)) (w.setRow g (ins cur.toList k cs).toArray)) : WL P ops Q N (o :: rest) env w := by
  refine WL.val (goInt m) _ hw hk ?_ (env' := put env d (goInt m)) (by simp only [putO, hd, hN]) h
  unfold execOp; rw [ho]
  simp only [resolve, invoke, Sem.run_bind, Sem.run_pure, Result.andThen_ok, List.map_toArray, List.map_cons, List.map_nil, hX, hY]
  simp only [builtin, Sem.run_bind, run_copyH hu hi hsz g k dLen dCap p sLen sCap cur cs hg m hm hn hsrc hfit h1, Result.andThen_ok, Sem.run_pure]

theorem Mod.row {S : Nat → Prop} {g : Nat} (vs : Array Value) (hg : S g) : Mod S w (w.setRow g vs) :=
  ⟨rfl, rfl, rfl, by simp, fun k hk hn => setRow_other w g k _ (fun ek => hn (ek ▸ hg))⟩

/-- The first assertion may be turned into a row of other elements, in its own blocks or in new ones. -/
theorem SH.turnRow {A : Asrt} (hS : SH w B (A :: L)) (hB : B ≤ w.heap.size) : ∃ S, A.on w S ∧ (∀ k, S k → B ≤ k ∧ k < w.heap.size) ∧
    ∀ (w' : World) (g : Nat) (cur : Array Value) (c : Nat) (zs : List α), Mod S w w' → (S g ∨ w.heap.size ≤ g) → w'.heap[g]? = some (.cells cur e (0, 0)) → zs.length ≤ c → c ≤ maxLen → cur.size = c * F.sz →
      cur.toList.take (zs.length * F.sz) = zs.flatMap F.leaf → Below B w w' ∧ SH w' B (aOwn F e (some ⟨g, 0, none⟩) c zs :: L) := by
  obtain ⟨S, hA, hSS, hup⟩ := hS.upd
  refine ⟨S, hA, hSS, fun w' g cur c zs hm hg hh h1 h2 h3 h4 => ⟨hm.below hB fun k hk => (hSS k hk).1, hup w' _ (fun k => k = g) hm ?_ ?_ hB⟩⟩
  · refine ⟨⟨by rw [flat_len], .inr ⟨g, c, cur, rfl, Nat.zero_le _, hh, h1, h2, h3, h4⟩⟩, fun k hk => ?_⟩
    simp [Value.ownBlock] at hk; exact hk.symm
  · rintro k rfl
    refine ⟨hg, ?_⟩
    rcases Nat.lt_or_ge k w'.heap.size with hl | hl
    · exact hl
    · simp [Array.getElem?_eq_none hl] at hh

theorem SH.apart {β : Type} {F' : Fl β} {e' : TypeId} {g g2 c2 : Nat} {ys : List β} (hS : SH w B (aOwn F e (some ⟨g, 0, none⟩) c xs :: aOwn F' e' (some ⟨g2, 0, none⟩) c2 ys :: L)) : g2 ≠ g := by
  obtain ⟨S1, S2, h1, h2, h3, hA, S3, S4, b1, b2, b3, hC, h5⟩ := hS
  rintro rfl
  exact h3 g2 (hA.2 g2 rfl) (b1 g2 (hC.2 g2 rfl))

/-- The cells of a row that is read, beginning at its k-th element. -/
theorem row_src {cur : Array Value} {g : Nat} (hh : w.heap[g]? = some (.cells cur e (0, 0))) (ht : cur.toList.take (xs.length * F.sz) = xs.flatMap F.leaf) (k : Nat) (hk : k ≤ xs.length) :
    ∀ j v, ((xs.drop k).flatMap F.leaf)[j]? = some v → w.cell? ((⟨g, k * F.sz, none⟩ : Addr).add j) = some v := by
  intro j v hj
  rw [add_at _ _ rfl]
  simp only [World.cell?, hh]
  have e1 : (xs.drop k).flatMap F.leaf = (xs.flatMap F.leaf).drop (k * F.sz) := by
    have e3 : xs.flatMap F.leaf = (xs.take k).flatMap F.leaf ++ (xs.drop k).flatMap F.leaf := by rw [← List.flatMap_append, List.take_append_drop]
    have e4 : ((xs.take k).flatMap F.leaf).length = k * F.sz := by rw [flat_len, List.length_take, Nat.min_eq_left hk]
    rw [e3, ← e4, List.drop_left']
    rfl
  rw [e1, ← ht, List.getElem?_drop, List.getElem?_take] at hj
  split at hj
  · simpa using hj
  · cases hj

theorem flat_one (ys : List α) : ∀ u ∈ ys.flatMap F.leaf, u.oneCell' = true := fun u hu => by
  obtain ⟨y, _, hy⟩ := List.mem_flatMap.1 hu
  exact F.one y u hy

theorem flat_take (k : Nat) (hk : k ≤ xs.length) : (xs.take k).flatMap F.leaf = (xs.flatMap F.leaf).take (k * F.sz) := by
  have e3 : xs.flatMap F.leaf = (xs.take k).flatMap F.leaf ++ (xs.drop k).flatMap F.leaf := by rw [← List.flatMap_append, List.take_append_drop]
  have e4 : ((xs.take k).flatMap F.leaf).length = k * F.sz := by rw [flat_len, List.length_take, Nat.min_eq_left hk]
  rw [e3, ← e4, List.take_left']
  rfl

/-- slices.overlaps of two rows that lie in different blocks. -/
theorem WL.apart {f : FuncId} {fn : Func} {X Y : Operand} {tR e1 e2 : TypeId} {g g2 k la ca lb cb : Nat} {cur cur2 : Array Value} (d : Nat) (ho : o.op = .call { callee := .value (.func f), args := #[X, Y], argTypes := #[t, t] })
    (hX : rho env X = .slice (some ⟨g2, 0, none⟩) la ca) (hY : rho env Y = .slice (some ⟨g, k, none⟩) lb cb) (hf : P.funcs[f]? = some fn) (hname : (fn.name == "runtime.NumGoroutine") = false) (hb : fn.body.isNone = true) (hn : Extern.findNext fn = none)
    (he : Extern.find fn = some (Extern.SlicesOverlaps.overlaps #[t, t] #[tR])) (hu : P.underlying t = some (.slice e)) (hi : P.info? e = some inf)
    (hne : g2 ≠ g) (h2 : w.heap[g2]? = some (.cells cur2 e2 (0, 0))) (hg : w.heap[g]? = some (.cells cur e1 (0, 0))) (hc : cur.size ≠ 0)
    (hw : want ops env o = some true) (hk : known env o = true) (hd : o.dst = some d) (hN : Nat.blt d N = true)
    (h : WL P ops Q N rest (put env d (.bool false)) w) : WL P ops Q N (o :: rest) env w := by
  refine WL.val (.bool false) w hw hk ?_ (env' := put env d (.bool false)) (by simp only [putO, hd, hN]) h
  have hov := Lib.run_overlaps_apart (P := P) w t tR e hu inf.size (fun w => run_sizeOf' hi w) ⟨g2, 0, none⟩ ⟨g, k, none⟩ la ca lb cb hne e2 e1 cur2.size cur.size (by simp [World.shape?, h2]) (by simp [World.shape?, hg]) hc
    (by simp [World.frozen?, h2]) (by simp [World.frozen?, h2])
  have hr : (callFunc f #[.slice (some ⟨g2, 0, none⟩) la ca, .slice (some ⟨g, k, none⟩) lb cb]).run P w = .ok (.value (.bool false)) w := by
    rw [run_callFunc_extern hf hname hb hn he, hov]; rfl
  unfold execOp; rw [ho]
  simp only [resolve, invoke, Sem.run_bind, Sem.run_pure, Result.andThen_ok, List.map_toArray, List.map_cons, List.map_nil, hX, hY, show rho env (.func f) = .func (.func f) #[] #[] from rfl, Deferred.ofValue, Array.append_empty, Array.empty_append, hr]

/-- append of zeros: a new row. -/
theorem WL.growZ {t' : TypeId} {X Y : Operand} {kq kn : IntKind} {z : Value} (zx : α) (d g n c k : Nat) (cur : Array Value) (hh : w.heap[g]? = some (.cells cur e (0, 0))) (ht2 : cur.toList.take (n * F.sz) = xs.flatMap F.leaf) (hl : xs.length = n)
    (ho : o.op = .call { callee := .builtin .append, args := #[X, Y], argTypes := #[t, t'] }) (hX : rho env X = .slice (some ⟨g, 0, none⟩) n c) (hY : rho env Y = .int kq (k : Int))
    (ht : P.underlying t = some (.slice e)) (hti : P.underlying t' = some (.int kn)) (hi : P.info? e = some inf) (hz : inf.zero = some z) (hsz : inf.size = F.sz) (hby : Nat.ble inf.bytes 4096 = true) (hzc : z.cells.toList = F.leaf zx)
    (hk0 : 0 < k) (hroom : c < n + k) (hbig : n + k ≤ 4294967296)
    (hw : want ops env o = some true) (hk : known env o = true) (hd : o.dst = some d) (hN : Nat.blt d N = true)
    (h : ∀ (cap : Nat) (cur' : Array Value) (w' : World), Ext w w' → n + k ≤ cap → cap ≤ maxLen → w'.heap[w.heap.size]? = some (.cells cur' e (0, 0)) → cur'.size = cap * F.sz → cur'.toList.take (n * F.sz) = xs.flatMap F.leaf →
      WL P ops Q N rest (put env d (.slice (some ⟨w.heap.size, 0, none⟩) (n + k) cap)) w') : WL P ops Q N (o :: rest) env w := by
  have hby' := Nat.le_of_ble_eq_true hby
  have hbytes : (n + k) * inf.bytes ≤ 140737488355328 := by
    have : (n + k) * inf.bytes ≤ 4294967296 * 4096 := Nat.mul_le_mul hbig hby'
    omega
  have h48 : k * inf.bytes ≤ 281474976710656 := by
    have : k * inf.bytes ≤ (n + k) * inf.bytes := Nat.mul_le_mul_right _ (by omega)
    omega
  have hzl : z.cells.size = F.sz := by have := F.len zx; rw [← hzc] at this; simpa using this
  have hp := F.pos
  have hold : (Builtin.firstCells inf.size n (.slice (some ⟨g, 0, none⟩) n c)).run P w.drew = .ok (xs.flatMap F.leaf).toArray w.drew := by
    have hll : (xs.flatMap F.leaf).length = n * inf.size := by rw [flat_len, hl, hsz]
    have := run_loadCells_list (P := P) w.drew ⟨g, 0, none⟩ (xs.flatMap F.leaf) fun j u hu => by
      rw [add_at _ _ rfl]
      have hh' : w.drew.heap[g]? = some (.cells cur e (0, 0)) := hh
      simp only [Nat.zero_add, World.cell?, hh']
      rw [← ht2, List.getElem?_take] at hu
      split at hu
      · simpa using hu
      · cases hu
    rw [hll] at this
    simpa [Builtin.firstCells] using this
  have hmx : n + k ≤ maxLen := by unfold maxLen; omega
  have hrun := Lib.run_append_grow_zeros (P := P) w t t' o.type e inf z kq kn ht hti hi hz (some ⟨g, 0, none⟩) n c (xs.flatMap F.leaf) hold k hk0 (by omega) hroom (by omega) h48 (growslice_fits hroom hbytes)
  have hge := grownCap_ge w (n + k) c e
  have hcm : grownCap w (n + k) c e ≤ maxLen := grownCap_le_maxLen w _ c e hmx
  refine WL.val (.slice (some ⟨w.heap.size, 0, none⟩) (n + k) (grownCap w (n + k) c e)) _ hw hk ?_ (env' := put env d (.slice (some ⟨w.heap.size, 0, none⟩) (n + k) (grownCap w (n + k) c e))) (by simp only [putO, hd, hN])
    (h (grownCap w (n + k) c e) ((xs.flatMap F.leaf).toArray ++ Builtin.zeroCells z.cells k ++ Builtin.zeroCells z.cells (grownCap w (n + k) c e - (n + k))) (w.drew.alloc (.cells ((xs.flatMap F.leaf).toArray ++ Builtin.zeroCells z.cells k ++ Builtin.zeroCells z.cells (grownCap w (n + k) c e - (n + k))) e))
      ((Below.refl _ _).drew.alloc (Nat.le_refl _) _) hge hcm (heap_alloc_new w.drew _) ?_ ?_)
  · unfold execOp; rw [ho]
    simp only [resolve, invoke, Sem.run_bind, Sem.run_pure, Result.andThen_ok, List.map_toArray, List.map_cons, List.map_nil, hX, hY]
    simp only [builtin, Sem.run_bind, hrun, Result.andThen_ok, Sem.run_pure]
  · have hzc : ∀ n, (Builtin.zeroCells z.cells n).size = n * F.sz := fun n => by rw [size_zeroCells, hzl]
    rw [Array.size_append, Array.size_append, hzc, hzc]; simp only [List.size_toArray]; rw [flat_len, hl, ← Nat.add_mul, ← Nat.add_mul]; congr 1; omega
  · simp only [Array.toList_append]
    rw [show n * F.sz = (xs.flatMap F.leaf).length by rw [flat_len, hl], List.append_assoc]
    exact List.take_left

/-- The first elements of a row, up to its capacity. -/
theorem ST.cutTo {g len j : Nat} {X : Operand} {hi : Option Operand} (ho : o.op = .slice t X none hi none) (hX : rho env X = .slice (some ⟨g, 0, none⟩) len c) (ht : P.underlying t = some (.slice e)) (hinf : P.info? e = some inf) (hsz : inf.size = F.sz)
    (hhi : boundV env (len : Int) hi (j : Int)) (h3 : j ≤ c) : ST P w env o (.slice (some ⟨g, 0, none⟩) j c) := by
  have h := ST.cut (w := w) (F := F) (a := some ⟨g, 0, none⟩) (c := c) (i := 0) (j := (j : Int)) ho hX ht hinf hsz rfl hhi (by omega) (by omega) (by omega)
  have e1 : (if c = (0 : Int).toNat then (some ⟨g, 0, none⟩ : Option Addr) else (some ⟨g, 0, none⟩ : Option Addr).map (·.add ((0 : Int).toNat * F.sz))) = some ⟨g, 0, none⟩ := by
    by_cases h0 : c = (0 : Int).toNat
    · rw [if_pos h0]
    · rw [cutAt h0]; simp
  rw [e1] at h
  simpa using h

/-- What of a row lies behind its i-th element. -/
theorem ST.cutFrom {g len i : Nat} {X : Operand} {lo : Option Operand} (ho : o.op = .slice t X lo none none) (hX : rho env X = .slice (some ⟨g, 0, none⟩) len c) (ht : P.underlying t = some (.slice e)) (hinf : P.info? e = some inf) (hsz : inf.size = F.sz)
    (hlo : boundV env 0 lo (i : Int)) (h2 : i ≤ len) (h3 : len ≤ c) (h4 : i < c) : ST P w env o (.slice (some ⟨g, i * F.sz, none⟩) (len - i) (c - i)) := by
  have h := ST.cut (w := w) (F := F) (a := some ⟨g, 0, none⟩) (c := c) (i := (i : Int)) (j := (len : Int)) ho hX ht hinf hsz hlo rfl (by omega) (by omega) (by omega)
  simp only [Int.toNat_natCast] at h
  rw [cutAt (by omega : ¬ c = i), Nat.zero_add] at h
  exact h

theorem Ext.row {w1 : World} {g : Nat} (h : Ext w w1) (hg : w.heap.size ≤ g) (vs : Array Value) : Ext w (w1.setRow g vs) :=
  ⟨h.os, h.tape, h.output, by simpa using h.size, fun k hk => (setRow_other w1 g k _ (fun ek => by omega)).trans (h.block k hk)⟩

theorem ins_arr {l : List Value} {o : Nat} {cs : List Value} (h : o + cs.length ≤ l.length) : (ins l o cs).toArray.size = l.length := by rw [List.size_toArray, ins_len h]

end
end Go.Gv
