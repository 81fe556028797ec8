/- Operations of a region, some of which write, in any order: each is told by what it takes and what it leaves. No program is named here. -/
import Derived.Test.YtkpdicajinionaaGreatDoorGw
namespace Go.Gv
open Go Go.RowKit

/-- Where what is new lies: by the operation and a number. -/
abbrev Gam := Nat → Nat → Option Addr × Nat

def memN : List Nat → Nat → Bool
  | [], _ => false
  | a :: l, k => match Nat.beq a k with
    | true => true
    | false => memN l k

def maskG (ks : List Nat) (g : Gam) : Gam := fun k => match memN ks k with
  | true => g k
  | false => fun _ => (none, 0)

def updG (g : Gam) (i : Nat) (x : Nat → Option Addr × Nat) : Gam := fun k => match Nat.beq k i with
  | true => x
  | false => g k

theorem memN_iff {l : List Nat} {k : Nat} : memN l k = true ↔ k ∈ l := by
  induction l with
  | nil => simp [memN]
  | cons a l ih =>
    unfold memN
    cases h : Nat.beq a k with
    | true => have : a = k := by simpa using h
              simp [this]
    | false =>
      have hne : ¬ k = a := fun e => by rw [e] at h; simp at h
      simp [ih, hne]

/-- An operation of the group: what it gives. -/
structure PO where
  i : Nat
  need : List Nat
  val : Gam → Value

def PO.v (p : PO) (g : Gam) : Value := p.val (maskG p.need g)

/-- Who turns a piece of memory, and to what. -/
structure Wr where
  i : Nat
  need : List Nat
  f : Gam → List Asrt

structure Cl where
  base : List Asrt
  ws : List Wr

def wrAt (done : Nat → Bool) (g : Gam) : List Wr → List Asrt → List Asrt
  | [], acc => acc
  | q :: qs, acc => wrAt done g qs (match done q.i with
    | true => q.f (maskG q.need g)
    | false => acc)

def memAt (done : Nat → Bool) (g : Gam) : List Cl → List Asrt
  | [] => []
  | c :: cs => wrAt done g c.ws c.base ++ memAt done g cs

def dstOf (ops : Array Oper) (i : Nat) : Option Nat := match nth ops.toList i with
  | some o => o.dst
  | none => none

def envAt (ops : Array Oper) (done : Nat → Bool) (g : Gam) : List PO → Env → Env
  | [], e => e
  | p :: ps, e => match done p.i with
    | true => match dstOf ops p.i with
      | some d => (d, p.v g) :: envAt ops done g ps e
      | none => envAt ops done g ps e
    | false => envAt ops done g ps e

def an (ops : Array Oper) (i j : Nat) : Bool := memN ((ancs ops.toList []).getD j []) i

def det (ops : Array Oper) (i : Nat) (c : Cl) : Bool := c.ws.all fun q => Nat.beq q.i i || an ops q.i i || an ops i q.i

def keepC (t : Cl → Bool) : List Cl → List Cl
  | [] => []
  | c :: cs => match t c with
    | true => c :: keepC t cs
    | false => keepC t cs

def extI (ops : Array Oper) : List Nat → Array Bool → Bool
  | [], _ => true
  | i :: is, listed => (Region.ready .any ops listed).contains i && extI ops is (listed.setIfInBounds i true)

def idsOf (G : List PO) : List Nat := G.map (·.i)

def plain1 (ops : Array Oper) (N : Nat) (env : Env) (i : Nat) : Bool := match nth ops.toList i with
  | some o => o.guard.isNone && (match o.dst with
    | some d => Nat.blt d N && (look env d).isNone
    | none => true)
  | none => false

def dstsOf (ops : Array Oper) : List PO → List Nat
  | [] => []
  | p :: ps => match dstOf ops p.i with
    | some d => d :: dstsOf ops ps
    | none => dstsOf ops ps

def nodupB : List Nat → Bool
  | [] => true
  | a :: l => !memN l a && nodupB l

def parB (ops : Array Oper) (N : Nat) (env : Env) (D : List Nat) (G : List PO) (cs : List Cl) : Bool :=
  extI ops (idsOf G) (setL D (Array.replicate ops.size false)) && waitB ops D (idsOf G) && D.all (fun i => (setL D (Array.replicate ops.size false)).getD i false) &&
  (idsOf G).all (fun i => !memN D i && plain1 ops N env i) && nodupB (idsOf G) && nodupB (dstsOf ops G) &&
  G.all (fun p => p.need.all fun k => Nat.beq k p.i || an ops k p.i) &&
  cs.all (fun c => c.ws.all fun q => (q.need.all fun k => Nat.beq k q.i || an ops k q.i) && memN (idsOf G) q.i && det ops q.i c) &&
  G.all (fun p => !an ops p.i p.i)

section
variable {P : Program} {ops : Array Oper} {Q : Exit → Act → World → Prop} {N : Nat} {env env' : Env} {w : World} {B : Nat} {R : List Asrt}

def QP (ops : Array Oper) (B : Nat) (cs : List Cl) (p : PO) (g : Gam) (R : List Asrt) (w' : World) : Exit → Act → World → Prop := fun e a w'' =>
  e = .normal ∧ a.defers = [] ∧ ∃ x, (∀ d, dstOf ops p.i = some d → a.tmps[d]? = some (p.v (updG g p.i x))) ∧ Below B w' w'' ∧
    SH w'' B (memAt (fun k => an ops k p.i || Nat.beq k p.i) (updG g p.i x) (keepC (det ops p.i) cs) ++ R)

def StepP (P : Program) (ops : Array Oper) (N B : Nat) (w : World) (env : Env) (G : List PO) (cs : List Cl) (p : PO) : Prop :=
  ∀ g w' R, Below B w w' → SH w' B (memAt (fun k => an ops k p.i) g (keepC (det ops p.i) cs) ++ R) →
    WL P ops (QP ops B cs p g R w') N (pick ops.toList [p.i]) (envAt ops (fun k => an ops k p.i) g G env) w'

def allP (S : PO → Prop) : List PO → Prop
  | [] => True
  | p :: ps => S p ∧ allP S ps

theorem allP_mem {S : PO → Prop} : ∀ {G : List PO}, allP S G → ∀ p ∈ G, S p
  | [], _, p, h => by simp at h
  | q :: G, h, p, hp => by
    rcases List.mem_cons.1 hp with rfl | hp
    · exact h.1
    · exact allP_mem h.2 p hp

theorem QP.intro {cs : List Cl} {p : PO} {g : Gam} {w' w'' : World} (x : Nat → Option Addr × Nat) {d : Nat} (hd : dstOf ops p.i = some d) (hv : look env d = some (p.v (updG g p.i x))) (hb : Below B w' w'')
    {L : List Asrt} (hS : SH w'' B L) (he : L = memAt (fun k => an ops k p.i || Nat.beq k p.i) (updG g p.i x) (keepC (det ops p.i) cs) ++ R) : WQ (QP ops B cs p g R w') .normal N env w'' :=
  fun _ hs => ⟨rfl, rfl, x, fun d' hd' => by rw [hd] at hd'; cases hd'; exact hs.val d _ hv, hb, he ▸ hS⟩

theorem QP.intro0 {cs : List Cl} {p : PO} {g : Gam} {w' w'' : World} (x : Nat → Option Addr × Nat) (hd : dstOf ops p.i = none) (hb : Below B w' w'')
    {L : List Asrt} (hS : SH w'' B L) (he : L = memAt (fun k => an ops k p.i || Nat.beq k p.i) (updG g p.i x) (keepC (det ops p.i) cs) ++ R) : WQ (QP ops B cs p g R w') .normal N env w'' :=
  fun _ _ => ⟨rfl, rfl, x, fun d' hd' => (by rw [hd] at hd'; cases hd'), hb, he ▸ hS⟩

theorem memEq {w : World} {L L' : List Asrt} (h : SH w B L) (e : L = L') : SH w B L' := e ▸ h

theorem wrAt_congr {done done' : Nat → Bool} {g g' : Gam} : ∀ (ws : List Wr) (acc : List Asrt), (∀ q ∈ ws, done q.i = done' q.i ∧ (done q.i = true → maskG q.need g = maskG q.need g')) → wrAt done g ws acc = wrAt done' g' ws acc
  | [], _, _ => rfl
  | q :: qs, acc, h => by
    obtain ⟨h1, h2⟩ := h q (by simp)
    unfold wrAt
    rw [wrAt_congr qs _ fun q' hq' => h q' (by simp [hq']), ← h1]
    cases hd : done q.i with
    | true => simp only []; rw [h2 hd]
    | false => rfl

theorem memAt_congr {done done' : Nat → Bool} {g g' : Gam} : ∀ (cs : List Cl), (∀ c ∈ cs, ∀ q ∈ c.ws, done q.i = done' q.i ∧ (done q.i = true → maskG q.need g = maskG q.need g')) → memAt done g cs = memAt done' g' cs
  | [], _ => rfl
  | c :: cs, h => by
    unfold memAt
    rw [wrAt_congr c.ws c.base (h c (by simp)), memAt_congr cs fun c' hc' => h c' (by simp [hc'])]

theorem memAt_parts {done : Nat → Bool} {g : Gam} (t : Cl → Bool) : ∀ (cs : List Cl), (memAt done g cs).Perm (memAt done g (keepC t cs) ++ memAt done g (keepC (fun c => !t c) cs))
  | [] => List.Perm.refl _
  | c :: cs => by
    have ih := memAt_parts (done := done) (g := g) t cs
    cases ht : t c with
    | true =>
      have e1 : keepC t (c :: cs) = c :: keepC t cs := by simp [keepC, ht]
      have e2 : keepC (fun c => !t c) (c :: cs) = keepC (fun c => !t c) cs := by simp [keepC, ht]
      rw [e1, e2]
      simp only [memAt, List.append_assoc]
      exact List.Perm.append_left _ ih
    | false =>
      have e1 : keepC t (c :: cs) = keepC t cs := by simp [keepC, ht]
      have e2 : keepC (fun c => !t c) (c :: cs) = c :: keepC (fun c => !t c) cs := by simp [keepC, ht]
      rw [e1, e2]
      simp only [memAt]
      refine (List.Perm.append_left _ ih).trans ?_
      rw [← List.append_assoc, ← List.append_assoc]
      exact List.Perm.append_right _ List.perm_append_comm

theorem keepC_mem {t : Cl → Bool} {c : Cl} : ∀ {cs : List Cl}, c ∈ keepC t cs → c ∈ cs ∧ t c = true
  | [], h => by simp [keepC] at h
  | d :: cs, h => by
    unfold keepC at h
    cases ht : t d with
    | true =>
      simp only [ht] at h
      rcases List.mem_cons.1 h with rfl | h
      · exact ⟨by simp, ht⟩
      · have := keepC_mem h; exact ⟨by simp [this.1], this.2⟩
    | false => simp only [ht] at h; have := keepC_mem h; exact ⟨by simp [this.1], this.2⟩

theorem envAt_look {done : Nat → Bool} {g : Gam} {t : Nat} {v : Value} {e : Env} : ∀ (G : List PO), look (envAt ops done g G e) t = some v → (∃ p ∈ G, done p.i = true ∧ dstOf ops p.i = some t ∧ v = p.v g) ∨ look e t = some v
  | [], h => .inr h
  | p :: ps, h => by
    have rec_ : look (envAt ops done g ps e) t = some v → (∃ q ∈ p :: ps, done q.i = true ∧ dstOf ops q.i = some t ∧ v = q.v g) ∨ look e t = some v := fun h' => by
      rcases envAt_look ps h' with ⟨q, hq, h2⟩ | h2
      · exact .inl ⟨q, by simp [hq], h2⟩
      · exact .inr h2
    unfold envAt at h
    cases hd : done p.i with
    | false => simp only [hd] at h; exact rec_ h
    | true =>
      simp only [hd] at h
      cases hdst : dstOf ops p.i with
      | none => simp only [hdst] at h; exact rec_ h
      | some d =>
        simp only [hdst, look] at h
        cases hb : Nat.beq d t with
        | true =>
          simp only [hb, Option.some.injEq] at h
          have : d = t := by simpa using hb
          subst this
          exact .inl ⟨p, by simp, hd, hdst, h.symm⟩
        | false => simp only [hb] at h; exact rec_ h

theorem mask_upd {ks : List Nat} {g : Gam} {i : Nat} {x : Nat → Option Addr × Nat} (h : memN ks i = false) : maskG ks g = maskG ks (updG g i x) := by
  funext k
  unfold maskG updG
  cases hk : memN ks k with
  | false => rfl
  | true =>
    cases hb : Nat.beq k i with
    | false => rfl
    | true =>
      have : k = i := by simpa using hb
      subst this; rw [h] at hk; cases hk

theorem setL_size : ∀ (is : List Nat) (L : Array Bool), (setL is L).size = L.size
  | [], _ => rfl
  | i :: is, L => by have := setL_size is (L.setIfInBounds i true); simpa [setL] using this

theorem setL_getD : ∀ (is : List Nat) (L : Array Bool) (k : Nat) (b : Bool), k < L.size → ((setL is L).getD k b = true ↔ k ∈ is ∨ L.getD k b = true)
  | [], L, k, b, _ => by simp [setL]
  | i :: is, L, k, b, hk => by
    have := setL_getD is (L.setIfInBounds i true) k b (by simpa using hk)
    have e : setL (i :: is) L = setL is (L.setIfInBounds i true) := rfl
    rw [e, this]
    by_cases hik : i = k
    · subst hik; simp [hk]
    · rw [getD_set_ne b hik]
      have : ¬ k = i := fun h => hik h.symm
      simp [this]

theorem setL_eq {is js : List Nat} (L : Array Bool) (h : ∀ k, k ∈ is ↔ k ∈ js) : setL is L = setL js L := by
  apply Array.ext
  · rw [setL_size, setL_size]
  · intro k h1 h2
    have hk : k < L.size := by rwa [setL_size] at h1
    have a1 := setL_getD is L k false hk
    have a2 := setL_getD js L k false hk
    have e1 : (setL is L).getD k false = (setL is L)[k] := by simp [h1]
    have e2 : (setL js L).getD k false = (setL js L)[k] := by simp [h2]
    rw [e1] at a1; rw [e2] at a2
    rw [Bool.eq_iff_iff, a1, a2, h k]

theorem nodup_len : ∀ (l m : List Nat), l.Nodup → (∀ x ∈ l, x ∈ m) → l.length ≤ m.length
  | [], _, _, _ => Nat.zero_le _
  | x :: l, m, h, hs => by
    obtain ⟨h1, h2⟩ := List.nodup_cons.1 h
    have hx : x ∈ m := hs x (by simp)
    have := nodup_len l (m.erase x) h2 fun y hy => (List.mem_erase_of_ne (fun e => by subst e; exact h1 hy)).2 (hs y (by simp [hy]))
    rw [List.length_erase_of_mem hx] at this
    have hp : 0 < m.length := List.length_pos_of_mem hx
    simp; omega

theorem nodupB_spec : ∀ l : List Nat, nodupB l = true → l.Nodup
  | [], _ => List.nodup_nil
  | x :: l, h => by
    simp only [nodupB, Bool.and_eq_true, Bool.not_eq_true'] at h
    refine List.nodup_cons.2 ⟨fun hx => ?_, nodupB_spec l h.2⟩
    have := memN_iff.2 hx; rw [h.1] at this; cases this

theorem wp_conv {o : Oper} {a : Act} {w : World} {K K' : Act → World → Prop} {Q1 Q2 : Exit → Act → World → Prop} (hn : ∀ e a w, Q1 e a w → e = .normal) (hno : ¬ LetsOut Q1) (hdef : ∀ a w, K a w → a.defers = [])
    (h : o.wp P a w K Q1) (hk : ∀ v w', K (a.put o.dst v) w' → K' (a.put o.dst v) w') : o.wp P a w K' Q2 := by
  unfold Oper.wp at h ⊢
  generalize (execOp a.eval o).run P w = r at h ⊢
  cases r with
  | ok n w' =>
    cases n with
    | value v => exact hk v w' h
    | skip => exact hk undef w' h
    | defer d =>
      have := hdef _ _ h
      cases hd : o.dst <;> rw [hd] at this <;> simp [Act.put] at this
    | enter g args =>
      refine Calls.mono h fun e w'' h4 => ?_
      cases e with
      | returned v => exact hk v w'' h4
      | panicked c => have := hn _ _ _ h4; cases this
      | outgrown => exact (hno h4).elim
    | row row args => exact Rows.mono h fun v w'' h4 => hk v w'' h4
    | _ => exact h.elim
  | halt x w' =>
    cases x <;> first | exact False.elim h | (have := hn _ _ _ h; cases this)

/-- The state when 'dn' have come up. -/
def PS (ops : Array Oper) (N B : Nat) (w : World) (env : Env) (G : List PO) (cs : List Cl) (R : List Asrt) (dn : List Nat) (a : Act) (w' : World) : Prop :=
  ∃ g, a.defers = [] ∧ a.tmps.size = N ∧ (∀ t v, look env t = some v → a.tmps[t]? = some v) ∧ (∀ p ∈ G, memN dn p.i = true → ∀ d, dstOf ops p.i = some d → a.tmps[d]? = some (p.v g)) ∧
    Below B w w' ∧ SH w' B (memAt (memN dn) g cs ++ R)

theorem nodupB_dsts : ∀ (G : List PO), nodupB (dstsOf ops G) = true → ∀ p ∈ G, ∀ q ∈ G, ∀ d, dstOf ops p.i = some d → dstOf ops q.i = some d → p = q
  | [], _, p, hp, _, _, _, _, _ => by simp at hp
  | r :: G, h, p, hp, q, hq, d, h1, h2 => by
    have mem : ∀ (G : List PO) (s : PO), s ∈ G → dstOf ops s.i = some d → memN (dstsOf ops G) d = true := by
      intro G s hs hd
      induction G with
      | nil => simp at hs
      | cons t G ih =>
        unfold dstsOf
        rcases List.mem_cons.1 hs with rfl | hs
        · simp [hd, memN]
        · cases ht : dstOf ops t.i with
          | none => exact ih hs
          | some e =>
            have := ih hs
            simp only [memN]
            cases Nat.beq e d with
            | true => rfl
            | false => exact this
    cases hr : dstOf ops r.i with
    | none =>
      have hG : nodupB (dstsOf ops G) = true := by simpa [dstsOf, hr] using h
      rcases List.mem_cons.1 hp with rfl | hp
      · rw [hr] at h1; cases h1
      · rcases List.mem_cons.1 hq with rfl | hq
        · rw [hr] at h2; cases h2
        · exact nodupB_dsts G hG p hp q hq d h1 h2
    | some e =>
      have hG : memN (dstsOf ops G) e = false ∧ nodupB (dstsOf ops G) = true := by simpa [dstsOf, hr, nodupB] using h
      rcases List.mem_cons.1 hp with hpe | hp'
      · subst hpe
        rcases List.mem_cons.1 hq with hqe | hq'
        · exact hqe.symm
        · rw [hr] at h1; cases h1
          have := mem G q hq' h2
          rw [hG.1] at this; cases this
      · rcases List.mem_cons.1 hq with hqe | hq'
        · subst hqe
          rw [hr] at h2; cases h2
          have := mem G p hp' h1
          rw [hG.1] at this; cases this
        · exact nodupB_dsts G hG.2 p hp' q hq' d h1 h2

theorem extI_first : ∀ (is : List Nat) (L : Array Bool) (dn : List Nat), extI ops is L = true → (∃ i ∈ is, i ∉ dn) → L.size = ops.size →
    ∃ i ∈ is, i ∉ dn ∧ ∃ o, ops[i]? = some o ∧ ∀ k, k ∈ edgesOf o → L.getD k false = true ∨ k ∈ dn
  | [], _, _, _, h, _ => by simp at h
  | j :: is, L, dn, hB, h, hsz => by
    simp only [extI, Bool.and_eq_true] at hB
    obtain ⟨hr, hB'⟩ := hB
    have hr' : j ∈ Region.ready .any ops L := by simpa using hr
    obtain ⟨_, o, ho, he⟩ := ready_edges hr'
    by_cases hj : j ∈ dn
    · have h2 : ∃ i ∈ is, i ∉ dn := by
        obtain ⟨i, hi, hn⟩ := h
        rcases List.mem_cons.1 hi with rfl | hi
        · exact absurd hj hn
        · exact ⟨i, hi, hn⟩
      obtain ⟨i, hi, hn, o', ho', he'⟩ := extI_first is _ dn hB' h2 (by simpa using hsz)
      refine ⟨i, by simp [hi], hn, o', ho', fun k hk => ?_⟩
      rcases he' k hk with h5 | h5
      · by_cases hjk : j = k
        · subst hjk; exact .inr hj
        · rw [getD_set_ne false hjk] at h5; exact .inl h5
      · exact .inr h5
    · exact ⟨j, by simp, hj, o, ho, fun k hk => .inl (he k hk)⟩

theorem mem_ready_of {L : Array Bool} {i : Nat} {o : Oper} (h0 : L.getD i true = false) (ho : ops[i]? = some o) (he : ∀ k ∈ edgesOf o, L.getD k false = true) : i ∈ Region.ready .any ops L := by
  refine mem_ready.2 ⟨h0, o, ho, fun e he1 he2 => he e.on ?_⟩
  simp only [edgesOf, List.mem_map, List.mem_filter]
  exact ⟨e, ⟨by simpa using he1, he2⟩, rfl⟩

theorem WA.par {k f' : Nat} {D D' : List Nat} {L : List Asrt} (G : List PO) (cs : List Cl) (hk : G.length + f' = k) (hD : D ++ idsOf G = D') (hS : SH w B L) (he : L = memAt (fun _ => false) (fun _ _ => (none, 0)) cs ++ R)
    (hB : parB ops N env D G cs = true) (hsteps : allP (StepP P ops N B w env G cs) G)
    (hfin : ∀ g w', Below B w w' → SH w' B (memAt (fun _ => true) g cs ++ R) → WQ (KA P ops Q f' D') .normal N (envAt ops (fun _ => true) g G env) w') : WQ (KA P ops Q k D) .normal N env w := by
  simp only [parB, Bool.and_eq_true] at hB
  obtain ⟨⟨⟨⟨⟨⟨⟨⟨b1, b2⟩, b3⟩, b4⟩, b5⟩, b6⟩, b7⟩, b8⟩, b9⟩ := hB
  simp only [List.all_eq_true, Bool.and_eq_true, Bool.not_eq_true', Bool.or_eq_true] at b3 b4 b7 b8 b9
  have hL0 : (setL D (Array.replicate ops.size false)).size = ops.size := by rw [setL_size]; simp
  have idm : ∀ p ∈ G, p.i ∈ idsOf G := fun p hp => List.mem_map.2 ⟨p, hp, rfl⟩
  have main : ∀ (m : Nat) (dn : List Nat) (a : Act) (w' : World), dn.Nodup → (∀ i ∈ dn, i ∈ idsOf G) → dn.length + m = G.length → DC ops (setL dn (setL D (Array.replicate ops.size false))) →
      PS ops N B w env G cs R dn a w' → wpAny P .any ops (NoP Q) (m + f') (setL dn (setL D (Array.replicate ops.size false))) a w' := by
    intro m
    induction m with
    | zero =>
      intro dn a w' hnd hsub hlen hdc hps
      have hall : ∀ i, i ∈ dn ↔ i ∈ idsOf G := fun i => ⟨hsub i, fun hi => by
        false_or_by_contra
        rename_i hn
        have := nodup_len (i :: dn) (idsOf G) (List.nodup_cons.2 ⟨hn, hnd⟩) fun x hx => by
          rcases List.mem_cons.1 hx with rfl | hx
          · exact hi
          · exact hsub x hx
        simp [idsOf] at this; omega⟩
      obtain ⟨g, h1, h2, h3, h4, h5, h6⟩ := hps
      have hfr : Sat N a.tmps (envAt ops (fun _ => true) g G env) := ⟨h2, fun t v ht => by
        rcases envAt_look G ht with ⟨p, hp, _, hd, rfl⟩ | ht
        · exact h4 p hp (memN_iff.2 ((hall _).2 (idm p hp))) t hd
        · exact h3 t v ht⟩
      have hm : memAt (memN dn) g cs = memAt (fun _ => true) g cs := memAt_congr cs fun c hc q hq => by
        obtain ⟨⟨_, hq2⟩, _⟩ := b8 c hc q hq
        exact ⟨memN_iff.2 ((hall _).2 (memN_iff.1 hq2)), fun _ => rfl⟩
      rw [hm] at h6
      have h7 := hfin g w' h5 h6 a.tmps hfr
      have e1 : setL dn (setL D (Array.replicate ops.size false)) = setL D' (Array.replicate ops.size false) := by rw [setL_eq _ hall, ← setL_append, hD]
      rw [e1] at hdc ⊢
      rw [Nat.zero_add]
      have ea : a = ⟨a.tmps, []⟩ := by cases a; simp only at h1; subst h1; rfl
      rw [ea]
      exact h7 hdc
    | succ m ih =>
      intro dn a w' hnd hsub hlen hdc hps
      have hLs : (setL dn (setL D (Array.replicate ops.size false))).size = ops.size := by rw [setL_size, hL0]
      have listed : ∀ i, i < ops.size → ((setL dn (setL D (Array.replicate ops.size false))).getD i false = true ↔ i ∈ dn ∨ (setL D (Array.replicate ops.size false)).getD i false = true) := fun i hi => setL_getD dn _ i false (by rw [hL0]; exact hi)
      have hDl : ∀ i, i < ops.size → ((setL D (Array.replicate ops.size false)).getD i false = true ↔ i ∈ D) := fun i hi => by
        rw [setL_getD D _ i false (by simpa using hi)]; simp [hi]
      -- somebody has not come up
      have hex : ∃ i ∈ idsOf G, i ∉ dn := by
        false_or_by_contra
        rename_i hc
        have hsub2 : ∀ i ∈ idsOf G, i ∈ dn := fun i hi => by
          false_or_by_contra
          rename_i hn
          exact hc ⟨i, hi, hn⟩
        have := nodup_len (idsOf G) dn (nodupB_spec _ b5) hsub2
        simp [idsOf] at this; omega
      have notAll : ¬ allL (idsOf G) (setL dn (setL D (Array.replicate ops.size false))) := by
        obtain ⟨i, hi, hn⟩ := hex
        intro ha
        obtain ⟨hb4, hb4'⟩ := b4 i hi
        have hlt : i < ops.size := by
          unfold plain1 at hb4'
          cases ho : nth ops.toList i with
          | none => rw [ho] at hb4'; cases hb4'
          | some o => rw [nth_eq] at ho; exact (Array.getElem?_eq_some_iff.1 (by simpa using ho)).1
        rcases (listed i hlt).1 (ha i hi) with h | h
        · exact hn h
        · have := memN_iff.2 ((hDl i hlt).1 h); rw [hb4] at this; cases this
      have hpre : allL D (setL dn (setL D (Array.replicate ops.size false))) := fun i hi => by
        have h1 := b3 i hi
        rcases Nat.lt_or_ge i ops.size with hl | hl
        · exact (listed i hl).2 (.inr h1)
        · rw [Array.getD_eq_getD_getElem?, Array.getElem?_eq_none (by rw [hL0]; exact hl)] at h1; cases h1
      rw [show m + 1 + f' = (m + f') + 1 by omega]
      refine ⟨fun h0 => ?_, fun i hi => ?_⟩
      · exfalso
        obtain ⟨i, hi, hn, o, ho, hed⟩ := extI_first (idsOf G) _ dn b1 hex hL0
        have hlt : i < ops.size := (Array.getElem?_eq_some_iff.1 ho).1
        have hun : (setL dn (setL D (Array.replicate ops.size false))).getD i true = false := by
          have hne : ¬ ((setL dn (setL D (Array.replicate ops.size false))).getD i false = true) := fun h => by
            rcases (listed i hlt).1 h with h | h
            · exact hn h
            · have := memN_iff.2 ((hDl i hlt).1 h); rw [(b4 i hi).1] at this; cases this
          have hl2 : i < (setL dn (setL D (Array.replicate ops.size false))).size := by rw [hLs]; exact hlt
          simp [hl2] at hne ⊢; exact hne
        have hr : i ∈ Region.ready .any ops (setL dn (setL D (Array.replicate ops.size false))) := mem_ready_of hun ho fun k hk => by
          rcases hed k hk with h | h
          · have hkl : k < ops.size := by
              rcases Nat.lt_or_ge k ops.size with hl | hl
              · exact hl
              · rw [Array.getD_eq_getD_getElem?, Array.getElem?_eq_none (by rw [hL0]; exact hl)] at h; cases h
            exact (listed k hkl).2 (.inr h)
          · have hkl : k < ops.size := by
              obtain ⟨_, hb4'⟩ := b4 k (hsub k h)
              unfold plain1 at hb4'
              cases ho : nth ops.toList k with
              | none => rw [ho] at hb4'; cases hb4'
              | some o => rw [nth_eq] at ho; exact (Array.getElem?_eq_some_iff.1 (by simpa using ho)).1
            exact (listed k hkl).2 (.inl h)
        rw [h0] at hr; cases hr
      · have hiG : i ∈ idsOf G := waitB_spec b2 hdc hpre notAll hi
        obtain ⟨p, hp, rfl⟩ := List.mem_map.1 hiG
        obtain ⟨hun, o, ho, hedges⟩ := ready_edges hi
        have hlt : p.i < ops.size := (Array.getElem?_eq_some_iff.1 ho).1
        have hpn : p.i ∉ dn := fun h => by
          have h2 := (listed p.i hlt).2 (.inl h)
          exact unlisted_ne hun h2
        have hpnF : memN dn p.i = false := by
          cases h : memN dn p.i with
          | false => rfl
          | true => exact absurd (memN_iff.1 h) hpn
        -- who has come up
        have ancDone : ∀ q, q ∈ idsOf G → an ops q p.i = true → q ∈ dn := fun q hq hqa => by
          have h1 := ancs_sound ops.toList [] [] _ rfl (fun j o h => by simp at h) (by simpa using hdc) p.i o (by simpa using ho) hedges q (memN_iff.1 hqa)
          have hql : q < ops.size := by
            rcases Nat.lt_or_ge q ops.size with hl | hl
            · exact hl
            · rw [Array.getD_eq_getD_getElem?, Array.getElem?_eq_none (by rw [hLs]; exact hl)] at h1; cases h1
          rcases (listed q hql).1 h1 with h | h
          · exact h
          · have := memN_iff.2 ((hDl q hql).1 h); rw [(b4 q hq).1] at this; cases this
        have laterNot : ∀ q, q ∈ dn → an ops p.i q = false := fun q hq => by
          cases hqa : an ops p.i q with
          | false => rfl
          | true =>
            exfalso
            obtain ⟨_, hb4'⟩ := b4 q (hsub q hq)
            unfold plain1 at hb4'
            cases hoq : nth ops.toList q with
            | none => rw [hoq] at hb4'; cases hb4'
            | some oq =>
              rw [nth_eq] at hoq
              have hoq' : ops[q]? = some oq := by simpa using hoq
              have hql : q < ops.size := (Array.getElem?_eq_some_iff.1 hoq').1
              have hqlisted := (listed q hql).2 (.inl hq)
              have h1 := ancs_sound ops.toList [] [] _ rfl (fun j o h => by simp at h) (by simpa using hdc) q oq (by simpa using hoq') (hdc q hqlisted oq hoq') p.i (memN_iff.1 hqa)
              exact unlisted_ne hun h1
        have notNeed : ∀ (nd : List Nat) (q : Nat), q ∈ dn → (∀ k ∈ nd, Nat.beq k q = true ∨ an ops k q = true) → memN nd p.i = false := fun nd q hq hnd => by
          cases h : memN nd p.i with
          | false => rfl
          | true =>
            exfalso
            rcases hnd p.i (memN_iff.1 h) with h1 | h1
            · have : p.i = q := by simpa using h1
              exact hpn (this ▸ hq)
            · rw [laterNot q hq] at h1; cases h1
        obtain ⟨g, h1, h2, h3, h4, h5, h6⟩ := hps
        have hperm : SH w' B (memAt (fun k => an ops k p.i) g (keepC (det ops p.i) cs) ++ (memAt (memN dn) g (keepC (fun c => !det ops p.i c) cs) ++ R)) := by
          have e1 : memAt (fun k => an ops k p.i) g (keepC (det ops p.i) cs) = memAt (memN dn) g (keepC (det ops p.i) cs) := memAt_congr _ fun c hc q hq => by
            obtain ⟨hc1, hc2⟩ := keepC_mem hc
            obtain ⟨⟨_, hqG⟩, _⟩ := b8 c hc1 q hq
            refine ⟨?_, fun _ => rfl⟩
            have hdq := List.all_eq_true.1 hc2 q hq
            simp only [Bool.or_eq_true] at hdq
            cases hm : memN dn q.i with
            | true =>
              have hqd := memN_iff.1 hm
              rcases hdq with (h | h) | h
              · have : q.i = p.i := by simpa using h
                exact absurd (this ▸ hqd) hpn
              · exact h
              · rw [laterNot _ hqd] at h; cases h
            | false =>
              cases ha : an ops q.i p.i with
              | false => rfl
              | true => have := memN_iff.2 (ancDone q.i (memN_iff.1 hqG) ha); rw [hm] at this; cases this
          rw [e1, ← List.append_assoc]
          exact SH.perm h6 (List.Perm.append_right _ (memAt_parts _ cs))
        have hstep := allP_mem hsteps p hp g w' _ h5 hperm
        have hsat : Sat N a.tmps (envAt ops (fun k => an ops k p.i) g G env) := ⟨h2, fun t v ht => by
          rcases envAt_look G ht with ⟨q, hq, hqa, hd, rfl⟩ | ht
          · exact h4 q hq (memN_iff.2 (ancDone q.i (idm q hq) hqa)) t hd
          · exact h3 t v ht⟩
        have hno : nth ops.toList p.i = some o := by rw [nth_eq]; simpa using ho
        have hpk : pick ops.toList [p.i] = [o] := by simp [pick, hno]
        rw [hpk] at hstep
        have h8 := hstep a.tmps hsat
        obtain ⟨hb4, hb4'⟩ := b4 p.i (idm p hp)
        unfold plain1 at hb4'
        rw [hno] at hb4'
        simp only [Bool.and_eq_true] at hb4'
        obtain ⟨hgd, hdst⟩ := hb4'
        have hwt : Region.wanted o (yielded ops a.tmps) = true := hsat.want (by unfold Gv.want; rw [show o.guard = none by simpa using hgd])
        have ea : a = ⟨a.tmps, []⟩ := by cases a; simp only at h1; subst h1; rfl
        simp only [wpList, hwt, if_true] at h8
        unfold wpOp
        simp only [ho, hwt, if_true]
        rw [← ea] at h8
        have noO : ¬ LetsOut (QP ops B cs p g (memAt (memN dn) g (keepC (fun c => !det ops p.i c) cs) ++ R) w') := by
          rintro ⟨a, w3, h, _⟩; cases h
        rcases h8 with h8 | ⟨_, h8⟩
        · refine .inl (wp_conv (fun e a w h => h.1) noO (fun a w h => h.2.1) h8 fun v w'' h9 => ?_)
          obtain ⟨_, hd0, x, hx1, hx2, hx3⟩ := h9
          have hset : (setL dn (setL D (Array.replicate ops.size false))).setIfInBounds p.i true = setL (dn ++ [p.i]) (setL D (Array.replicate ops.size false)) := by simp [setL]
          rw [hset]
          have hmem : ∀ k, memN (dn ++ [p.i]) k = (memN dn k || Nat.beq k p.i) := fun k => by
            rw [Bool.eq_iff_iff, memN_iff]; simp [memN_iff]
          refine ih (dn ++ [p.i]) _ w'' ?_ ?_ (by simp; omega) ?_ ⟨updG g p.i x, hd0, ?_, ?_, ?_, h5.trans hx2, ?_⟩
          · rw [List.nodup_append]
            exact ⟨hnd, by simp, fun a ha b hb => by simp at hb; subst hb; exact fun e => hpn (e ▸ ha)⟩
          · intro i hi
            rcases List.mem_append.1 hi with hi | hi
            · exact hsub i hi
            · simp at hi; subst hi; exact idm p hp
          · rw [← hset]; exact hdc.set hi
          · cases hd : o.dst with
            | none => exact h2
            | some d => simpa [Act.put] using h2
          · intro t v ht
            cases hd : o.dst with
            | none => exact h3 t v ht
            | some d =>
              rw [hd] at hdst
              simp only [Bool.and_eq_true] at hdst
              have hne : d ≠ t := fun e => by subst e; rw [ht] at hdst; simp at hdst
              show (a.tmps.setIfInBounds d _)[t]? = some v
              rw [Array.getElem?_setIfInBounds_ne hne]; exact h3 t v ht
          · intro q hq hqd d hd
            have hdo : dstOf ops p.i = o.dst := by unfold dstOf; rw [hno]
            by_cases hqp : q = p
            · subst hqp; exact hx1 d hd
            · have hqd' : memN dn q.i = true := by
                rw [hmem] at hqd
                simp only [Bool.or_eq_true] at hqd
                rcases hqd with h | h
                · exact h
                · exfalso
                  have e : q.i = p.i := by simpa using h
                  have e2 : dstOf ops p.i = some d := e ▸ hd
                  exact hqp (nodupB_dsts G b6 q hq p hp d hd e2)
              have hv : q.v (updG g p.i x) = q.v g := by
                unfold PO.v
                rw [← mask_upd (notNeed q.need q.i (memN_iff.1 hqd') (b7 q hq))]
              rw [hv]
              have h10 := h4 q hq hqd' d hd
              cases hdd : o.dst with
              | none => exact h10
              | some e =>
                have hne : e ≠ d := fun h => by
                  subst h
                  exact hqp (nodupB_dsts G b6 q hq p hp e hd (by rw [hdo]; exact hdd))
                show (a.tmps.setIfInBounds e _)[d]? = _
                rw [Array.getElem?_setIfInBounds_ne hne]; exact h10
          · have e1 : memAt (fun k => an ops k p.i || Nat.beq k p.i) (updG g p.i x) (keepC (det ops p.i) cs) = memAt (memN (dn ++ [p.i])) (updG g p.i x) (keepC (det ops p.i) cs) := memAt_congr _ fun c hc q hq => by
              obtain ⟨hc1, hc2⟩ := keepC_mem hc
              obtain ⟨⟨_, hqG⟩, _⟩ := b8 c hc1 q hq
              refine ⟨?_, fun _ => rfl⟩
              rw [hmem]
              have hdq := List.all_eq_true.1 hc2 q hq
              simp only [Bool.or_eq_true] at hdq
              cases hm : memN dn q.i with
              | true =>
                have hqd := memN_iff.1 hm
                rcases hdq with (h | h) | h
                · simp [h]
                · simp [h]
                · rw [laterNot _ hqd] at h; cases h
              | false =>
                cases ha : an ops q.i p.i with
                | false => simp
                | true => have := memN_iff.2 (ancDone q.i (memN_iff.1 hqG) ha); rw [hm] at this; cases this
            have e2 : memAt (memN dn) g (keepC (fun c => !det ops p.i c) cs) = memAt (memN (dn ++ [p.i])) (updG g p.i x) (keepC (fun c => !det ops p.i c) cs) := memAt_congr _ fun c hc q hq => by
              obtain ⟨hc1, hc2⟩ := keepC_mem hc
              obtain ⟨⟨hqn, hqG⟩, hqdet⟩ := b8 c hc1 q hq
              have hne : q.i ≠ p.i := fun e => by rw [e] at hqdet; rw [hqdet] at hc2; cases hc2
              refine ⟨?_, fun hqd => mask_upd (notNeed q.need q.i (memN_iff.1 hqd) hqn)⟩
              rw [hmem]
              have : Nat.beq q.i p.i = false := by
                cases h : Nat.beq q.i p.i with
                | false => rfl
                | true => exact absurd (by simpa using h) hne
              simp [this]
            rw [e1, e2, ← List.append_assoc] at hx3
            exact SH.perm hx3 (List.Perm.append_right _ (memAt_parts _ cs).symm)
        · exact (noO h8).elim
  intro fr hfr hdc
  subst hk
  have := main G.length [] ⟨fr, []⟩ w List.nodup_nil (fun i h => by simp at h) (by simp) hdc ⟨fun _ _ => (none, 0), rfl, hfr.size, hfr.val, fun p _ h => by simp [memN] at h, Below.refl _ _, ?_⟩
  · exact this
  · have : memAt (memN []) (fun _ _ => (none, 0)) cs = memAt (fun _ => false) (fun _ _ => (none, 0)) cs := memAt_congr cs fun c _ q _ => ⟨rfl, fun _ => rfl⟩
    rw [this, ← he]; exact hS

theorem WL.subk {l : List Oper} (ts : List Nat) (env' : Env) (hb : pickE env ts = some env') (h : WL P ops Q N l env' w) : WL P ops Q N l env w := WL.sub env' (pickE_sub ts hb) h
theorem WQ.subk {e : Exit} (ts : List Nat) (env' : Env) (hb : pickE env ts = some env') (h : WQ Q e N env' w) : WQ Q e N env w := WQ.sub env' (pickE_sub ts hb) h

theorem WQ.ret4 {fn : Func} {R : Value → World → Prop} {t u x y : Nat} (v v2 v3 v4 : Value) (hres : fn.results = #[.tmp t, .tmp u, .tmp x, .tmp y]) (hv : look env t = some v) (hv2 : look env u = some v2) (hv3 : look env x = some v3) (hv4 : look env y = some v4)
    (hR : R (.tuple #[v, v2, v3, v4]) w) : WQ (bodyPost P fn fun e w' => ∃ v, e = .returned v ∧ R v w') .ret N env w :=
  fun fr hs => bodyPost_ret (v := .tuple #[v, v2, v3, v4]) (by simp [results, hres, hs.val t _ hv, hs.val u _ hv2, hs.val x _ hv3, hs.val y _ hv4]) rfl ⟨_, rfl, hR⟩

/-- An open element's row has a head. -/
theorem SH.holeHead {α : Type} {F : Nl α} {e ei : TypeId} {a : Option Addr} {c : Nat} {xs : List α} {L : List Asrt} {i : Nat} {vs : List Value} (h : SH w B (aHole F e ei a c xs i vs :: L)) : a = some (at_ a 0) := by
  obtain ⟨S1, S2, h1, h2, h3, ⟨ys, I1, I2, ⟨y, hy, rfl⟩, hH, hh⟩, h5⟩ := h
  have h6 : SH w B (aOwn F.raw e a c ys :: (I1 ++ I2)) := SHp.mono h1 hh
  exact (SH.rd h6 i y hy).1

theorem ST.indexA {α : Type} {T : Ty α} {xs : List α} {a : Option Addr} {c : Nat} {k : IntKind} {i : Int} {x : α} {t e : TypeId} {X I : Operand} {inf : TypeInfo} {o : Oper}
    (ha : a = some (at_ a 0)) (hx : idx xs i = some x) (ho : o.op = .indexAddr t X I) (hX : rho env X = .slice a xs.length c) (hI : rho env I = .int k i)
    (ht : P.underlying t = some (.slice e)) (hi : P.info? e = some inf) (hsz : inf.size = T.sz) : ST P w env o (.pointer (some (at_ a (i.toNat * T.sz)))) := by
  intro w' hE
  obtain ⟨h0, h1, h2⟩ := idx_some hx
  unfold execOp
  rw [ho]
  simp only [hX, hI]
  have hlt : i < (xs.length : Int) := by omega
  have hadd := add_at (at_ a 0) (i.toNat * T.sz) rfl
  rw [ha]
  simp only [Instr.indexAt, asIntOf, Sem.run_bind, Sem.run_pure, Result.andThen_ok, run_underlying ht, h0, hlt, and_self, if_true, run_sizeOf' hi, hsz, hadd]
  simp [at_, ba]

end
end Go.Gv
