/- Plain law of stock: what is reserved can be used, what is short is missing, what can be made leaves nothing below nothing. -/
import Derived.Test.YtkpdicajinionaaPgI
namespace Go.Gv
open Go Go.RowKit

theorem names_ok {l l' : List SGood} (h : namesG l = namesG l') (hs : ∀ g ∈ l', strok g.Name) : ∀ g ∈ l, strok g.Name := by
  intro g hg
  have : g.Name ∈ namesG l := List.mem_map.2 ⟨g, hg, rfl⟩
  rw [h] at this
  obtain ⟨g', h1, h2⟩ := List.mem_map.1 this
  rw [← h2]; exact hs g' h1

theorem short_len : ∀ (l : List SGood) (acc : List STake), (l.foldl shortF acc).length ≤ acc.length + l.length
  | [], acc => by simp
  | g :: l, acc => by
    rw [List.foldl_cons]
    have h := short_len l (shortF acc g)
    have : (shortF acc g).length ≤ acc.length + 1 := by unfold shortF; split <;> simp
    simp only [List.length_cons]; omega

def endM (n : Nat) (R : List SGood × Int) (l : List SGood) (name : List UInt8) (many : Int) : Option Bool :=
  if (R.2 != 0) then some true else
  Option.bind (m_impl_UseReserved n R.1 name many) fun x =>
  Option.bind (m_spec_ChangeGood n l (STake.mk name (wI64 (0 - many)))) fun y =>
  Option.bind (if (x.2 == 0) then (if (y.2 == 0) then Option.bind (m_spec_SameGoods n x.1 y.1) fun z => some z else some false) else some false) fun w => some w

theorem end_true (n : Nat) (l : List SGood) (name : List UInt8) (many : Int) (hl : DG l) (hn : 1048577 < n) (R : List SGood × Int)
    (hR : (codeG l name many).2 ≠ 0 ∧ R = ([], (codeG l name many).2) ∨ ∃ (k : Nat) (g : SGood), codeG l name many = ((k : Int), 0) ∧ l[k]? = some g ∧ g.Name = name ∧ goodsB l = true ∧ 1 ≤ many ∧ many ≤ 1000000 ∧ findZ l name = (k : Int) ∧ R = resAt l many k g) : endM n R l name many = some true := by
  unfold endM
  obtain ⟨ok1, ok2⟩ := hl.ok
  rcases hR with ⟨h1, h2⟩ | ⟨k, g, hc, hg, hgn, hv, m1, m2, hk, h2⟩
  · have : (R.2 != 0) = true := by rw [h2]; simpa using h1
    rw [this]; rfl
  · by_cases hf : g.OnHand - g.Reserved < many
    · have : R = ([], 10) := by rw [h2]; unfold resAt; rw [if_pos hf]
      rw [this]; rfl
    · have hRe : R = (l.set k ⟨g.Name, g.OnHand, g.Reserved + many, g.Least⟩, 0) := by rw [h2]; unfold resAt; rw [if_neg hf]
      obtain ⟨u1, u2, u3, u4⟩ := reserve_use hv hg hgn m1 m2 hk hf
      rw [hRe]
      have hs2 : ∀ x ∈ l.set k ⟨g.Name, g.OnHand, g.Reserved + many, g.Least⟩, strok x.Name := names_set ok2 hg rfl
      obtain ⟨r, e1, e2, e3⟩ := p_Use n (l.set k ⟨g.Name, g.OnHand, g.Reserved + many, g.Least⟩) name many (by simpa using ok1) hs2 (by omega)
      have hr : r = (l.set k ⟨g.Name, g.OnHand - many, g.Reserved, g.Least⟩, 0) := by
        rcases e3 with ⟨h, _⟩ | ⟨k', g', c1, c2, _, _, _, _, _, c3⟩
        · rw [u1] at h; exact absurd rfl h
        · rw [u1] at c1
          have : k' = k := by have := congrArg Prod.fst c1; simp only at this; omega
          subst this
          rw [u2] at c2; cases c2
          rw [c3, u3]
      have w : wI64 (0 - many) = -many := by rw [wI64_eq (by omega) (by omega)]; omega
      obtain ⟨f1, f2, f3⟩ := p_Change n l ⟨name, -many⟩ ok1 ok2 (by omega)
      rw [u4] at f1
      rw [hr] at e2
      have hlen : (l.set k (SGood.mk g.Name (g.OnHand - many) g.Reserved g.Least)).length ≤ 1048576 := by simpa using ok1
      have hsame := p_specSameGoods n (l.set k (SGood.mk g.Name (g.OnHand - many) g.Reserved g.Least)) (l.set k (SGood.mk g.Name (g.OnHand - many) g.Reserved g.Least)) hlen (by omega)
      simp only [bne_self_eq_false, Bool.false_eq_true, if_false, e2, w, f1, Option.bind_some, beq_self_eq_true, if_true, hsame, decide_true]

def canM (n : Nat) (body : List STake × Int → Option (Step (List STake × Int) ((List STake) ⊕ Bool))) (c : List SGood) (ts : List STake) (X : Int × Int) (rest : Option Bool) : Option Bool :=
  Option.bind (if (X.2 == 0) then (if (decide (X.1 > 0)) then (if (decide (X.1 < 1000)) then some (decide ((ts.length : Int) < 20)) else some false) else some false) else some false) fun x1431 =>
  if x1431 then
    Option.bind (loopN body n (([] : List STake), 0)) fun t =>
    match t with
    | .inl q =>
      Option.bind (m_impl_ChangeGoods n c q) fun x1615 =>
      Option.bind (if (x1615.2.2 != 0) then some true else some (x1615.2.1 != (-1))) fun x1629 =>
      if x1629 then some false else
      Option.bind (m_impl_CanMake n x1615.1 ts) fun x1639 =>
      Option.bind (if (x1639.2 != 0) then some true else some (x1639.1 != 0)) fun x1649 =>
      if x1649 then some false else rest
    | .inr r => some r
  else rest

theorem can_true (n : Nat) (c : List SGood) (ts : List STake) (hl : DG c) (h5 : ts.length ≤ 5) (hn : 1048577 < n) (body : List STake × Int → Option (Step (List STake × Int) ((List STake) ⊕ Bool)))
    (hb : body = fun st => if (decide (st.2 < (ts.length : Int))) then Option.bind (idx ts st.2) fun x => if (decide (x.Many > 1000)) then some (.done (.inr true)) else Option.bind (idx ts st.2) fun y => Option.bind (idx ts st.2) fun z => Option.bind (app st.1 ([(STake.mk y.Name (wI64 ((wI64 (0 - (canR c ts).1)) * z.Many)))] : List STake)) fun w => some (.next (w, (wI64 (st.2 + 1)))) else some (.done (.inl st.1)))
    (rest : Option Bool) (hr : rest = some true) : canM n body c ts (canR c ts) rest = some true := by
  obtain ⟨ok1, ok2⟩ := hl.ok
  unfold canM
  by_cases h0 : (canR c ts).2 = 0 ∧ 0 < (canR c ts).1 ∧ (canR c ts).1 < 1000
  · obtain ⟨q1, q2, q3⟩ := h0
    have d1 : ((canR c ts).2 == 0) = true := by simp [q1]
    have d4 : decide ((ts.length : Int) < 20) = true := decide_eq_true (by omega)
    have d2 : decide ((canR c ts).1 > 0) = true := decide_eq_true (by omega)
    have d3 : decide ((canR c ts).1 < 1000) = true := decide_eq_true (by omega)
    simp only [d1, d2, d3, d4, if_true, Option.bind_some]
    -- what is known of the needs
    have known : goodsB c = true ∧ (∀ t ∈ ts, 1 ≤ t.Many ∧ t.Many ≤ 1000000) ∧ ts ≠ [] ∧ (∀ t ∈ ts, 0 ≤ findZ c t.Name) ∧ (canR c ts).1 = (freeL c ts).foldl minF (-1) := by
      unfold canR at q1 ⊢
      cases hv : goodsB c with
      | false => rw [hv] at q1; simp at q1
      | true =>
        rw [hv] at q1
        rw [if_pos rfl, if_neg (by omega)] at q1
        cases hm : ts.all (fun t => inRB 1 1000000 t.Many) with
        | false => rw [hm] at q1; simp at q1
        | true =>
          rw [hm, if_pos rfl] at q1
          by_cases hz : ts.length = 0
          · rw [if_pos hz] at q1; simp at q1
          · rw [if_neg hz] at q1
            cases hk : ts.all (fun t => decide (0 ≤ findZ c t.Name)) with
            | false => rw [hk] at q1; simp at q1
            | true =>
              refine ⟨rfl, fun t ht => ?_, fun e => hz (by rw [e]; rfl), fun t ht => ?_, ?_⟩
              · have := List.all_eq_true.1 hm t ht
                unfold inRB at this; simpa using this
              · have := List.all_eq_true.1 hk t ht
                simpa using this
              · rw [if_pos rfl, if_neg (by omega), if_pos rfl, if_neg hz, if_pos rfl]
    obtain ⟨hv, hm, hne, hf, hM⟩ := known
    obtain ⟨M, hMe⟩ : ∃ M, M = (canR c ts).1 := ⟨_, rfl⟩
    rw [← hMe] at hb q2 q3 hM
    have w0 : wI64 (0 - M) = -M := by rw [wI64_eq (by omega) (by omega)]; omega
    by_cases hbig : ∀ t ∈ ts, t.Many ≤ 1000
    · -- all are few
      have key : loopN body n (([] : List STake), 0) = _ := (loopN_fold (body := body) ts (fun (b : List STake) t => b ++ [⟨t.Name, -M * t.Many⟩]) [] (fun i b => (b, (i : Int))) (fun b => Sum.inl b) (fun i b => b.length = i) rfl
        (fun i t b ht hbl => by
          have hlt := lt_of_get ht
          have htm := List.mem_of_getElem? ht
          have m1 := hm t htm
          have m2 := hbig t htm
          have p1 : -M * t.Many = -(M * t.Many) := Int.neg_mul _ _
          have p2 : M * t.Many ≤ 1000 * 1000 := Int.mul_le_mul (by omega) m2 (by omega) (by omega)
          have p3 : 0 ≤ M * t.Many := Int.mul_nonneg (by omega) (by omega)
          have w1 : wI64 (-M * t.Many) = -M * t.Many := wI64_eq (by omega) (by omega)
          have d : decide (t.Many > 1000) = false := decide_eq_false (by omega)
          refine ⟨?_, by simp [hbl]⟩
          rw [hb]
          simp only [ltB hlt, if_true, idx_nat, ht, Option.bind_some, d, Bool.false_eq_true, if_false, w0, w1, succ64 hlt (by omega), app_eq (show b.length + [(⟨t.Name, -M * t.Many⟩ : STake)].length ≤ 4294967296 by simp; omega)])
        (fun b _ => by rw [hb]; simp only [ltB_self, Bool.false_eq_true, if_false]) n (by omega)).1
      have hmap : ts.foldl (fun (b : List STake) t => b ++ [⟨t.Name, -M * t.Many⟩]) [] = ts.map fun t => (⟨t.Name, -M * t.Many⟩ : STake) := by
        have : ∀ (us : List STake) (b : List STake), us.foldl (fun (b : List STake) t => b ++ [⟨t.Name, -M * t.Many⟩]) b = b ++ us.map fun t => (⟨t.Name, -M * t.Many⟩ : STake) := by
          intro us
          induction us with
          | nil => intro b; simp
          | cons u us ih => intro b; rw [List.foldl_cons, ih]; simp
        simpa using this ts []
      rw [key, hmap]
      simp only [Option.bind_some]
      obtain ⟨left, g1, g2, g3, g4⟩ := can_after c ts hv (by omega) hm hne hf c (by rw [← hM]; omega)
      rw [← hM] at g1
      obtain ⟨r, r1, r2, r3, r4⟩ := p_ChangeGoodsR n c (ts.map fun t => (⟨t.Name, -M * t.Many⟩ : STake)) ok1 ok2 (by simp; omega) hn
      have hrr : r = (left, -1, 0) := by
        rcases r4 hv (by simp; omega) (fun u hu => by
          rw [List.mem_map] at hu
          obtain ⟨t, ht, rfl⟩ := hu
          have m1 := hm t ht
          have m2 := hbig t ht
          have p1 : -M * t.Many = -(M * t.Many) := Int.neg_mul _ _
          have p2 : M * t.Many ≤ 999 * 1000 := Int.mul_le_mul (by omega) m2 (by omega) (by omega)
          have p3 : 0 ≤ M * t.Many := Int.mul_nonneg (by omega) (by omega)
          unfold inRB; simp; omega) with ⟨b, b1, b2⟩ | ⟨j, b1, _⟩
        · rw [g1] at b1; cases b1; exact b2
        · exact absurd g1 (b1 left)
      rw [hrr] at r2
      have okl := names_ok g4 ok2
      obtain ⟨v, v1, v2, v3⟩ := p_CanMakeR n left ts (by omega) okl (by omega) hn
      rw [v3, g2] at v2
      simp only [r2, Option.bind_some, bne_self_eq_false, Bool.false_eq_true, if_false, v2]
      exact hr
    · -- one is many: nothing is said
      have key : ∃ r, loopN body n (([] : List STake), 0) = some r ∧ r = .inr true := by
        have sp := loopN_runL (body := body) ts (fun _ (b : List STake) t => if t.Many > 1000 then .error (Sum.inr true) else .ok (b ++ [⟨t.Name, wI64 (-M * t.Many)⟩])) [] (fun i b => (b, (i : Int))) (fun b => Sum.inl b) (fun i b => b.length = i) rfl
          (fun i t b ht hbl => by
            have hlt := lt_of_get ht
            rw [hb]
            simp only [ltB hlt, if_true, idx_nat, ht, Option.bind_some, w0, succ64 hlt (by omega), app_eq (show b.length + [(⟨t.Name, wI64 (-M * t.Many)⟩ : STake)].length ≤ 4294967296 by simp; omega)]
            by_cases hx : t.Many > 1000
            · rw [if_pos hx]
              have d : decide (t.Many > 1000) = true := decide_eq_true hx
              simp only [d, if_true]
            · rw [if_neg hx]
              have d : decide (t.Many > 1000) = false := decide_eq_false hx
              simp only [d, Bool.false_eq_true, if_false]
              exact ⟨trivial, by simp [hbl]⟩)
          (fun b _ => by rw [hb]; simp only [ltB_self, Bool.false_eq_true, if_false]) n (by omega)
        have e : ∀ (us : List STake) (i : Nat) (b : List STake), (¬ ∀ t ∈ us, t.Many ≤ 1000) → runL (fun _ (b : List STake) (t : STake) => if t.Many > 1000 then (.error (Sum.inr true) : Except ((List STake) ⊕ Bool) (List STake)) else .ok (b ++ [⟨t.Name, wI64 (-M * t.Many)⟩])) i us b = .error (Sum.inr true) := by
          intro us
          induction us with
          | nil => intro i b h; exact absurd (fun t ht => by simp at ht) h
          | cons u us ih =>
            intro i b h
            by_cases hu : u.Many > 1000
            · simp [runL, hu]
            · simp only [runL, if_neg hu]
              refine ih _ _ fun hall => h fun t ht => ?_
              rcases List.mem_cons.1 ht with rfl | ht
              · omega
              · exact hall t ht
        have s1 : loopN body n (([] : List STake), 0) = _ := sp.1
        rw [e ts 0 [] hbig] at s1
        exact ⟨_, s1, rfl⟩
      obtain ⟨r, k1, rfl⟩ := key
      rw [k1]; rfl
  · have hno : (if ((canR c ts).2 == 0) = true then (if (decide ((canR c ts).1 > 0)) = true then (if (decide ((canR c ts).1 < 1000)) = true then some (decide ((ts.length : Int) < 20)) else some false) else some false) else some false) = some false := by
      by_cases a : (canR c ts).2 = 0
      · have d1 : ((canR c ts).2 == 0) = true := by simp [a]
        rw [d1, if_pos rfl]
        by_cases b : 0 < (canR c ts).1
        · rw [if_pos (decide_eq_true b)]
          have : ¬ (canR c ts).1 < 1000 := fun h => h0 ⟨a, b, h⟩
          rw [if_neg (by simpa using this)]
        · rw [if_neg (by simpa using b)]
      · have d1 : ((canR c ts).2 == 0) = false := by simp [a]
        rw [d1]; rfl
    rw [hno]
    exact hr

theorem law_Reserves (code : List Int) (_hl : code.length ≤ 9223372036854775807) (hc : ∀ x ∈ code, u8ok x) : m_laws_FnReserves 2000000 code = some true := by
  unfold m_laws_FnReserves m_laws_f6big
  simp only [Option.bind_some]
  cases decide ((code.length : Int) > 4096) with
  | true => rfl
  | false =>
    simp only [Bool.false_eq_true, if_false]
    have hb : bytesok code := hc
    obtain ⟨l, w, m, e1, hl⟩ := p_l23Ask 2000000 hb (by omega)
    obtain ⟨b, a1, s1, e2, hbd, _⟩ := p_l23Bent 2000000 hb 0 (by omega) 0 (by omega)
    have e2' : m_spec_l23Bent 2000000 code 0 0 = some (b, (a1 : Int), s1) := e2
    obtain ⟨c, ts, e3, hcd, h5⟩ := p_DrawCanMake 2000000 hb (by omega)
    obtain ⟨l1, l2⟩ := hl.ok
    obtain ⟨b1, b2⟩ := hbd.ok
    obtain ⟨c1, c2⟩ := hcd.ok
    have d1 : m_spec_DrawReserveGood 2000000 code = some (l, w, m) := by unfold m_spec_DrawReserveGood; rw [e1]; rfl
    have d2 : m_spec_DrawUseReserved 2000000 code = some (l, w, m) := by unfold m_spec_DrawUseReserved; rw [e1]; rfl
    have d3 : m_spec_DrawShortGoods 2000000 code = some b := by unfold m_spec_DrawShortGoods; rw [p_l00From]; simp only [Option.bind_some, e2']
    obtain ⟨R, r1, r2, r3⟩ := p_Reserve 2000000 l w m l1 l2 (by omega)
    obtain ⟨U, u1, u2, u3⟩ := p_Use 2000000 l w m l1 l2 (by omega)
    obtain ⟨t1, t2, t3⟩ := p_ShortGoodsR 2000000 b b1 b2 (by omega)
    obtain ⟨v, v1, v2, v3⟩ := p_CanMakeR 2000000 c ts c1 c2 (by omega) (by omega)
    subst v3
    have lenR : R.1.length ≤ 1048576 := by
      rcases r3 with ⟨_, h⟩ | ⟨k, g, _, _, _, _, _, _, _, h⟩
      · rw [h]; simp
      · rw [h]; have := resAt_len l m k g; omega
    have lenU : U.1.length ≤ 1048576 := by
      rcases u3 with ⟨_, h⟩ | ⟨k, g, _, _, _, _, _, _, _, h⟩
      · rw [h]; simp
      · rw [h]; have := useAt_len l m k g; omega
    have sR := p_specSameGoods 2000000 R.1 R.1 lenR (by omega)
    have sU := p_specSameGoods 2000000 U.1 U.1 lenU (by omega)
    have hend := end_true 2000000 l w m hl (by omega) R r3
    have hmem : ∀ t ∈ (shortR b).1, 1 ≤ t.Many ∧ t.Many ≤ 1000000 := by
      intro t ht
      unfold shortR at ht
      cases hv : goodsB b with
      | false => rw [hv] at ht; simp at ht
      | true =>
        rw [hv, if_pos rfl] at ht
        rcases short_mem b [] t ht with h | ⟨g, hg, h1, h2⟩
        · simp at h
        · obtain ⟨q1, q2, q3, q4, q5, q6⟩ := goodB_range ((stock_of hv).good g hg)
          rw [h1]
          unfold missG at h2 ⊢
          simp only
          omega
    have hloop : loopN (m_laws_FnReserves_l1 2000000 (shortR b) (shortR b)) 2000000 0 = some (.inl ()) := by
      have key : loopN (m_laws_FnReserves_l1 2000000 (shortR b) (shortR b)) 2000000 0 = _ := loopN_listAll (body := m_laws_FnReserves_l1 2000000 (shortR b) (shortR b)) (shortR b).1 (fun _ => true) (fun i => (i : Int)) (Sum.inl ()) (Sum.inr false)
        (fun i t ht => by
          have hlt := lt_of_get ht
          have hm := hmem t (List.mem_of_getElem? ht)
          have d : decide (t.Many < 1) = false := decide_eq_false (by omega)
          unfold m_laws_FnReserves_l1
          simp only [ltB hlt, if_true, idx_nat, ht, Option.bind_some, decide_true, Bool.not_true, Bool.false_eq_true, if_false, d, succ64 hlt (by omega)])
        (by unfold m_laws_FnReserves_l1; simp only [ltB_self, Bool.false_eq_true, if_false]) 2000000 (by omega)
      have hal : ((shortR b).1.all fun _ => true) = true := by rw [List.all_eq_true]; intro _ _; rfl
      rw [key, hal]; rfl
    simp only [d1, d2, d3, e3, Option.bind_some, r1, r2, u1, u2, t1, t2, v1, v2, bne_self_eq_false, Bool.false_eq_true, if_false, sR, sU, decide_true, Bool.not_true, hloop]
    have cm := fun body h => can_true 2000000 c ts hcd h5 (by omega) body h (endM 2000000 R l w m) hend
    cases h0 : ((shortR b).2 == 0) with
    | false =>
      simp only [Bool.false_eq_true, if_false]
      exact cm (m_laws_FnReserves_l7 2000000 (c, ts) (canR c ts)) rfl
    | true =>
      have hv : goodsB b = true := by
        unfold shortR at h0
        cases hv : goodsB b with
        | true => rfl
        | false => rw [hv] at h0; simp at h0
      have hsh : shortR b = (b.foldl shortF [], 0) := by unfold shortR; rw [if_pos hv]
      have hb41 := (stock_of hv).len
      have hlen := short_len b []
      simp only [List.length_nil] at hlen
      have happ : app ([] : List STake) (shortR b).1 = some (shortR b).1 := by rw [app_eq (by simp; omega)]; rfl
      have hsl : (shortR b).1.length ≤ 40 := by rw [hsh]; simp only; omega
      obtain ⟨r, g1, g2, g3, g4⟩ := p_ChangeGoodsR 2000000 b (shortR b).1 b1 b2 (by omega) (by omega)
      simp only [if_true, happ, Option.bind_some, g2]
      rcases g4 hv (by omega) (fun t ht => by have := hmem t ht; unfold inRB; simp; omega) with ⟨f, f1, f2⟩ | ⟨j, _, f2⟩
      · subst f2
        have f1' : runL (roundG b) 0 (b.foldl shortF []) b = .ok f := by rw [hsh] at f1; exact f1
        have hnone := filled_none hv b f1'
        obtain ⟨n1, n2, n3⟩ := run_sum b _ _ _ _ f1'
        obtain ⟨k1, k2, k3⟩ := p_ShortGoodsR 2000000 f (by omega) (names_ok n2 b2) (by omega)
        rw [hnone] at k2
        have z1 : ((-1 : Int) == -1) = true := rfl
        have z2 : ((([] : List STake).length : Int) != 0) = false := rfl
        simp only [bne_self_eq_false, Bool.false_eq_true, if_false, z1, if_true, k2, Option.bind_some, z2]
        exact cm (m_laws_FnReserves_l5 2000000 (c, ts) (canR c ts)) rfl
      · subst f2
        have z1 : ((j : Int) == -1) = false := by rw [beq_eq_false_iff_ne]; omega
        simp only [bne_self_eq_false, Bool.false_eq_true, if_false, z1]
        exact cm (m_laws_FnReserves_l6 2000000 (c, ts) (canR c ts)) rfl

end Go.Gv
