/-
  WHAT IS ALIKE TO ALL PARTS AT ONCE, as the document has it: the plain law, and its walk; sources, and what is left.
-/
import Derived.Test.YtndoigkmdcgjfaaDoorQwLb
namespace Go.Proofs.YtndoigkmdcgjfaaDoor
open Go Go.Qw
set_option maxRecDepth 10000
set_option linter.unusedSimpArgs false
set_option linter.unusedVariables false
set_option linter.unusedSectionVars false
set_option maxHeartbeats 4000000

/-! ### The document's labels of all parts at once -/

def joinA (R : RF) (p i j : Nat) : RF := updR R p (renR (R p) i j)
theorem renR_snd {n : Nat} {l : Nat → Nat} {E : Nat → Nat → Prop} (hs : ∀ {s t : Nat}, E s t → E t s) (ht : ∀ {s t u : Nat}, E s t → E t u → E s u) (h : ∀ s t, s < n → t < n → l s = l t → E s t) {i j : Nat} (hi : i < n) (hj : j < n) (hij : E i j) : ∀ s t, s < n → t < n → renR l i j s = renR l i j t → E s t := by
  intro s t hsn htn he
  unfold renR at he
  by_cases h1 : l s = l j <;> by_cases h2 : l t = l j
  · exact h s t hsn htn (h1.trans h2.symm)
  · rw [if_pos h1, if_neg h2] at he
    exact ht (h s j hsn hj h1) (ht (hs hij) (h i t hi htn he))
  · rw [if_neg h1, if_pos h2] at he
    exact ht (h s i hsn hi he) (ht hij (hs (h t j htn hj h2)))
  · rw [if_neg h1, if_neg h2] at he
    exact h s t hsn htn he
structure GoodA (P : Int) (A : List Int) (N : List (List Int)) (f : List Int) (R : RF) : Prop where
  own : ∀ p, OwnP N.length (R p)
  snd : ∀ p, p < P.toNat → ∀ s t, s < N.length → t < N.length → R p s = R p t → CloB P A N f p s t
theorem mesB_ren {R : RF} {n p i j : Nat} (r : OwnP n (R p)) (hi : i < n) (hj : j < n) (hne : R p i ≠ R p j) : ∀ {P : Nat}, p < P → mesB (joinA R p i j) n P < mesB R n P
  | 0, h => by omega
  | P + 1, h => by
    rw [mesB, mesB]
    by_cases hp : p = P
    · subst hp
      have h1 : mesB (joinA R p i j) n p = mesB R n p := mesB_congr fun q hq => updR_other _ (by omega)
      have h2 : joinA R p i j p = renR (R p) i j := updR_same _ _ _
      have h3 := r.ren_lt hi hj hne
      rw [h1, h2]; omega
    · have ih := mesB_ren r hi hj hne (show p < P by omega)
      have h2 : joinA R p i j P = R P := updR_other _ (by omega)
      rw [h2]; omega
theorem joinA_same {R : RF} {p i j : Nat} (h : R p i = R p j) : joinA R p i j = R := by
  funext q
  unfold joinA updR
  split
  · rename_i hq; subst hq; exact renR_same h
  · rfl
/-- The state behind a join. -/
def stA (z : RF × Bool) (p i j : Nat) : RF × Bool := (joinA z.1 p i j, bif decide (z.1 p i ≠ z.1 p j) then true else z.2)
def OneA (P : Int) (A : List Int) (N : List (List Int)) (f : List Int) (R : RF) (p a s t : Nat) : Prop :=
  ∀ q b u, q < P.toNat → b < A.length → u < N.length → (q < p ∨ q = p ∧ (b < a ∨ b = a ∧ (u < s ∨ u = s ∧ 0 < t))) → qaF A f (q : Int) b = true → R q u = R q (nx N u b)
def TwoA (P : Int) (A : List Int) (N : List (List Int)) (R : RF) (p a s t : Nat) : Prop :=
  ∀ q b u v, q < P.toNat → b < A.length → u < N.length → v < u → (q < p ∨ q = p ∧ (b < a ∨ b = a ∧ (u < s ∨ u = s ∧ v + 1 < t))) → R q u = R q v → R (byA A b) u = R (byA A b) v → R q (nx N u b) = R q (nx N v b)
/-- Where a round stands. -/
structure InvA (P : Int) (A : List Int) (N : List (List Int)) (f : List Int) (R0 : RF) (z : RF × Bool) (p a s t : Nat) : Prop where
  good : GoodA P A N f z.1
  st : (z.2 = false ∧ z.1 = R0 ∧ OneA P A N f R0 p a s t ∧ TwoA P A N R0 p a s t) ∨ (z.2 = true ∧ mesB z.1 N.length P.toNat < mesB R0 N.length P.toNat)
section
variable {P : Int} {A : List Int} {N : List (List Int)} {f : List Int} {R R0 : RF} {z : RF × Bool} {p a s t : Nat}
theorem GoodA.id_ : GoodA P A N f fun _ => id := ⟨fun _ => own_id _, fun p _ s t _ _ h => by
  have h : s = t := h
  subst h; exact .refl⟩
theorem GoodA.join (g : GoodA P A N f R) {i j : Nat} (hi : i < N.length) (hj : j < N.length) (hc : CloB P A N f p i j) : GoodA P A N f (joinA R p i j) := by
  refine ⟨fun q => ?_, fun q hq s t hs ht he => ?_⟩
  · unfold joinA updR
    split
    · exact (g.own p).ren hi hj
    · exact g.own q
  · unfold joinA updR at he
    by_cases hqp : q = p
    · subst hqp
      rw [if_pos rfl] at he
      exact renR_snd (E := CloB P A N f q) (fun h => h.symm) (fun h k => h.trans k) (g.snd q hq) hi hj hc s t hs ht he
    · rw [if_neg hqp] at he
      exact g.snd q hq s t hs ht he
theorem InvA.start (g : GoodA P A N f R) : InvA P A N f R (R, false) 0 0 0 0 := ⟨g, .inl ⟨rfl, rfl, fun q b u h1 h2 h3 h4 => by omega, fun q b u v h1 h2 h3 h4 h5 => by omega⟩⟩
theorem InvA.go (h : InvA P A N f R0 z p a s t) {p' a' s' t' : Nat} (h1 : z.1 = R0 → OneA P A N f R0 p a s t → OneA P A N f R0 p' a' s' t') (h2 : z.1 = R0 → TwoA P A N R0 p a s t → TwoA P A N R0 p' a' s' t') : InvA P A N f R0 z p' a' s' t' := by
  refine ⟨h.good, ?_⟩
  rcases h.st with ⟨e1, e2, e3, e4⟩ | e
  · exact .inl ⟨e1, e2, h1 e2 e3, h2 e2 e4⟩
  · exact .inr e
theorem InvA.nextS (h : InvA P A N f R0 z p a s (s + 1)) : InvA P A N f R0 z p a (s + 1) 0 := h.go (fun _ hd q b u h1 h2 h3 h4 => hd q b u h1 h2 h3 (by omega)) fun _ hd q b u v h1 h2 h3 h4 h5 => hd q b u v h1 h2 h3 h4 (by omega)
theorem InvA.nextA (h : InvA P A N f R0 z p a N.length 0) : InvA P A N f R0 z p (a + 1) 0 0 := h.go (fun _ hd q b u h1 h2 h3 h4 => hd q b u h1 h2 h3 (by omega)) fun _ hd q b u v h1 h2 h3 h4 h5 => hd q b u v h1 h2 h3 h4 (by omega)
theorem InvA.nextP (h : InvA P A N f R0 z p A.length 0 0) : InvA P A N f R0 z (p + 1) 0 0 0 := h.go (fun _ hd q b u h1 h2 h3 h4 => hd q b u h1 h2 h3 (by omega)) fun _ hd q b u v h1 h2 h3 h4 h5 => hd q b u v h1 h2 h3 h4 (by omega)
theorem InvA.one_no (h : InvA P A N f R0 z p a s 0) (hq : ¬qaF A f (p : Int) a = true) : InvA P A N f R0 z p a s 1 := h.go (fun _ hd q b u h1 h2 h3 h4 h5 => by
  by_cases he : q = p ∧ b = a ∧ u = s
  · obtain ⟨rfl, rfl, rfl⟩ := he
    exact absurd h5 hq
  · exact hd q b u h1 h2 h3 (by omega) h5) fun _ hd q b u v h1 h2 h3 h4 h5 => hd q b u v h1 h2 h3 h4 (by omega)
theorem InvA.two_no (h : InvA P A N f R0 z p a s (t + 1)) (hne : ¬(z.1 p s = z.1 p t ∧ z.1 (byA A a) s = z.1 (byA A a) t)) : InvA P A N f R0 z p a s (t + 2) := h.go (fun _ hd q b u h1 h2 h3 h4 h5 => hd q b u h1 h2 h3 (by omega) h5) fun e0 hd q b u v h1 h2 h3 h4 h5 h6 h7 => by
  by_cases he : q = p ∧ b = a ∧ u = s ∧ v = t
  · obtain ⟨rfl, rfl, rfl, rfl⟩ := he
    rw [e0] at hne
    exact absurd ⟨h6, h7⟩ hne
  · exact hd q b u v h1 h2 h3 h4 (by omega) h6 h7
/-- A join of what must be alike. -/
theorem InvA.join (h : InvA P A N f R0 z p a s t) (hp : p < P.toNat) {i j t' : Nat} (hi : i < N.length) (hj : j < N.length) (hc : CloB P A N f p i j)
    (h1 : R0 p i = R0 p j → OneA P A N f R0 p a s t → OneA P A N f R0 p a s t') (h2 : R0 p i = R0 p j → TwoA P A N R0 p a s t → TwoA P A N R0 p a s t') : InvA P A N f R0 (stA z p i j) p a s t' := by
  refine ⟨h.good.join hi hj hc, ?_⟩
  by_cases he : z.1 p i = z.1 p j
  · have hz : stA z p i j = z := by
      unfold stA
      rw [joinA_same he, decide_eq_false (by simpa using he)]
      rfl
    rw [hz]
    rcases h.st with ⟨e1, e2, e3, e4⟩ | e
    · rw [e2] at he
      exact .inl ⟨e1, e2, h1 he e3, h2 he e4⟩
    · exact .inr e
  · have hm := mesB_ren (h.good.own p) hi hj he hp (P := P.toNat)
    refine .inr ⟨by unfold stA; rw [decide_eq_true he]; rfl, ?_⟩
    rcases h.st with ⟨_, e2, _⟩ | ⟨_, e2⟩
    · rw [← e2]; exact hm
    · exact Nat.lt_trans hm e2
theorem InvA.one_yes (h : InvA P A N f R0 z p a s 0) (hp : p < P.toNat) (hs : s < N.length) (ha : a < A.length) (hx : nx N s a < N.length) (hq : qaF A f (p : Int) a = true) : InvA P A N f R0 (stA z p s (nx N s a)) p a s 1 :=
  h.join hp hs hx (.one hp hs ha hq) (fun e0 hd q b u h1 h2 h3 h4 h5 => by
    by_cases he : q = p ∧ b = a ∧ u = s
    · obtain ⟨rfl, rfl, rfl⟩ := he
      exact e0
    · exact hd q b u h1 h2 h3 (by omega) h5) fun _ hd q b u v h1 h2 h3 h4 h5 => hd q b u v h1 h2 h3 h4 (by omega)
theorem InvA.two_yes (h : InvA P A N f R0 z p a s (t + 1)) (hp : p < P.toNat) (hs : s < N.length) (ht : t < N.length) (ha : a < A.length) (hx : nx N s a < N.length) (hy : nx N t a < N.length) (hb : byA A a < P.toNat) (h1 : z.1 p s = z.1 p t ∧ z.1 (byA A a) s = z.1 (byA A a) t) : InvA P A N f R0 (stA z p (nx N s a) (nx N t a)) p a s (t + 2) :=
  h.join hp hx hy (.two hp hs ht ha (h.good.snd p hp s t hs ht h1.1) (h.good.snd _ hb s t hs ht h1.2)) (fun _ hd q b u h1 h2 h3 h4 h5 => hd q b u h1 h2 h3 (by omega) h5) fun e0 hd q b u v h1 h2 h3 h4 h5 h6 h7 => by
    by_cases he : q = p ∧ b = a ∧ u = s ∧ v = t
    · obtain ⟨rfl, rfl, rfl, rfl⟩ := he
      exact e0
    · exact hd q b u v h1 h2 h3 h4 (by omega) h6 h7
structure FinA (P : Int) (A : List Int) (N : List (List Int)) (f : List Int) (R : RF) : Prop where
  good : GoodA P A N f R
  one : OneA P A N f R P.toNat 0 0 0
  two : TwoA P A N R P.toNat 0 0 0
theorem FinA.step1 (h : FinA P A N f R) (hp : p < P.toNat) (hs : s < N.length) (ha : a < A.length) (hq : qaF A f (p : Int) a = true) : R p s = R p (nx N s a) := h.one p a s hp ha hs (.inl hp) hq
theorem FinA.step2 (h : FinA P A N f R) (hp : p < P.toNat) (hs : s < N.length) (ht : t < N.length) (ha : a < A.length) (e1 : R p s = R p t) (e2 : R (byA A a) s = R (byA A a) t) : R p (nx N s a) = R p (nx N t a) := by
  rcases Nat.lt_trichotomy s t with hlt | rfl | hlt
  · exact (h.two p a t s hp ha ht hlt (.inl hp) e1.symm e2.symm).symm
  · rfl
  · exact h.two p a s t hp ha hs hlt (.inl hp) e1 e2
theorem FinA.iff (h : FinA P A N f R) (hb : ∀ a, a < A.length → byA A a < P.toNat) (hn : ∀ s a, s < N.length → a < A.length → nx N s a < N.length) {p s t : Nat} (hp : p < P.toNat) (hs : s < N.length) (ht : t < N.length) : R p s = R p t ↔ CloB P A N f p s t := by
  refine ⟨h.good.snd p hp s t hs ht, fun hc => ?_⟩
  have key : ∀ {p s t}, CloB P A N f p s t → p < P.toNat → (s < N.length ↔ t < N.length) ∧ (s < N.length → t < N.length → R p s = R p t) := by
    intro p s t hc
    induction hc with
    | refl => exact fun _ => ⟨Iff.rfl, fun _ _ => rfl⟩
    | symm _ ih => exact fun hp => ⟨(ih hp).1.symm, fun h1 h2 => ((ih hp).2 h2 h1).symm⟩
    | trans _ _ ih1 ih2 => exact fun hp => ⟨(ih1 hp).1.trans (ih2 hp).1, fun h1 h2 => ((ih1 hp).2 h1 ((ih1 hp).1.1 h1)).trans ((ih2 hp).2 ((ih1 hp).1.1 h1) h2)⟩
    | one h1 h2 h3 h4 => exact fun hp => ⟨⟨fun _ => hn _ _ h2 h3, fun _ => h2⟩, fun _ _ => h.step1 hp h2 h3 h4⟩
    | two h1 h2 h3 h4 _ _ ih1 ih2 => exact fun hp => ⟨⟨fun _ => hn _ _ h3 h4, fun _ => hn _ _ h2 h4⟩, fun _ _ => h.step2 hp h2 h3 h4 ((ih1 hp).2 h2 h3) ((ih2 (hb _ h4)).2 h2 h3)⟩
  exact (key hc hp).2 hs ht
end

/-! ### Their numbers -/

theorem qV_all {ρ : Nat → Nat} {x n : Nat} (hx : ∀ k, k < n → x.testBit k = true) : ∀ {i}, i ≤ n → qV ρ x i = qAt .int ((List.range n).map fun k => ((ρ k : Nat) : Int)) i
  | 0, _ => rfl
  | i + 1, h => by
    rw [qV, if_pos (hx i (by omega)), qAt, qV_all hx (show i ≤ n by omega)]
    congr 1
    simp [List.getD, show i < n by omega]
theorem out_num {ρ : Nat → Nat} {x n : Nat} (hx : ∀ k, k < n → x.testBit k = true) : outV ρ x n n = numR n ρ := by
  unfold outV numR numQ
  refine List.map_congr_left fun k hk => ?_
  have hk := List.mem_range.1 hk
  rw [if_pos hk, numV, if_pos (hx k hk), qV_all hx (by omega)]
  congr 1
  simp [List.getD, hk]
def osA (n P : Nat) (R : RF) : List OD := (List.range P).map fun q => OD.row 3 .int (labL n (R q))
theorem osA_len (n P : Nat) (R : RF) : (osA n P R).length = P := by simp [osA]
theorem osA_get {n P : Nat} {R : RF} {q : Nat} (hP : q < P) : (osA n P R)[q]? = some (.row 3 .int (labL n (R q))) := by simp [osA, hP]
theorem osA_set {n P : Nat} {R : RF} {q : Nat} (ρ : Nat → Nat) : (osA n P R).set q (.row 3 .int (labL n ρ)) = osA n P (updR R q ρ) := by
  refine List.ext_getElem (by simp [osA]) fun k h1 h2 => ?_
  simp only [osA, List.getElem_set, List.getElem_map, List.getElem_range, updR]
  by_cases h : q = k
  · subst h; rw [if_pos rfl, if_pos rfl]
  · have h' : ¬k = q := fun e => h e.symm
    simp only [if_neg h, if_neg h']
theorem osA_new (n i : Nat) : osA n i (fun _ => id) ++ [OD.row 3 .int (labL n id)] = osA n (i + 1) fun _ => id := by simp [osA, List.range_succ]
theorem osA_dead (n i : Nat) (R : RF) : (osA n i R ++ [OD.dead])[i]? = some OD.dead := by
  rw [List.getElem?_append_right (by rw [osA_len]; omega), osA_len, Nat.sub_self]; rfl
theorem osA_next (n i : Nat) : (osA n i (fun _ => id) ++ [OD.dead]).set i (.row 3 .int (labL n id)) = osA n (i + 1) fun _ => id := by
  have h := set_last (osA n i fun _ => id) (.dead : OD) (.row 3 .int (labL n id))
  rw [osA_len] at h
  rw [h, osA_new]

/-! ### What a round does, told as its states -/

def q1A (N : List (List Int)) (A f : List Int) (p a s : Nat) (z : RF × Bool) : RF × Bool := bif qaF A f (p : Int) a then stA z p s (nx N s a) else z
def q2A (N : List (List Int)) (A : List Int) (p a s t : Nat) (z : RF × Bool) : RF × Bool := if z.1 p s = z.1 p t ∧ z.1 (byA A a) s = z.1 (byA A a) t then stA z p (nx N s a) (nx N t a) else z
section
variable {P : Int} {A : List Int} {N : List (List Int)} {f : List Int} {R0 : RF} {z : RF × Bool} {p a s t : Nat}
theorem InvA.q1 (h : InvA P A N f R0 z p a s 0) (hp : p < P.toNat) (hs : s < N.length) (ha : a < A.length) (hx : nx N s a < N.length) : InvA P A N f R0 (q1A N A f p a s z) p a s 1 := by
  unfold q1A
  cases hq : qaF A f (p : Int) a with
  | true => exact h.one_yes hp hs ha hx hq
  | false => exact h.one_no (by rw [hq]; decide)
theorem InvA.q2 (h : InvA P A N f R0 z p a s (t + 1)) (hp : p < P.toNat) (hs : s < N.length) (ht : t < N.length) (ha : a < A.length) (hx : nx N s a < N.length) (hy : nx N t a < N.length) (hb : byA A a < P.toNat) : InvA P A N f R0 (q2A N A p a s t z) p a s (t + 2) := by
  unfold q2A
  split
  · rename_i h1; exact h.two_yes hp hs ht ha hx hy hb h1
  · rename_i h1; exact h.two_no h1
theorem updR_id (R : RF) (p : Nat) : updR R p (R p) = R := by
  funext q
  unfold updR
  split
  · rename_i h; rw [h]
  · rfl
theorem osA_keep {n Q : Nat} {R : RF} {c : Bool} (hc : c = false) (l' : Nat → Nat) : (osA n Q R).set p (.row 3 .int (labL n (bif c then l' else R p))) = osA n Q R := by
  subst hc
  show (osA n Q R).set p (.row 3 .int (labL n (R p))) = osA n Q R
  rw [osA_set, updR_id]
theorem obj1 {n Q : Nat} : (osA n Q z.1).set p (.row 3 .int (labL n (bif qaF A f (p : Int) a then renR (z.1 p) s (nx N s a) else z.1 p))) = osA n Q (q1A N A f p a s z).1 := by
  unfold q1A
  cases qaF A f (p : Int) a with
  | true => exact osA_set _
  | false => exact osA_keep (c := false) rfl id
theorem up1 (h : (bif qaF A f (p : Int) a then decide (z.1 p s ≠ z.1 p (nx N s a)) else false) = true) : true = (q1A N A f p a s z).2 := by
  unfold q1A
  cases hq : qaF A f (p : Int) a with
  | false => rw [hq] at h; cases h
  | true =>
    rw [hq] at h
    show true = (bif decide (z.1 p s ≠ z.1 p (nx N s a)) then true else z.2)
    rw [show decide (z.1 p s ≠ z.1 p (nx N s a)) = true from h]
    rfl
theorem still1 (h : (bif qaF A f (p : Int) a then decide (z.1 p s ≠ z.1 p (nx N s a)) else false) = false) : z.2 = (q1A N A f p a s z).2 := by
  unfold q1A
  cases hq : qaF A f (p : Int) a with
  | false => rfl
  | true =>
    rw [hq] at h
    show z.2 = (bif decide (z.1 p s ≠ z.1 p (nx N s a)) then true else z.2)
    rw [show decide (z.1 p s ≠ z.1 p (nx N s a)) = false from h]
    rfl
theorem obj2 {n Q : Nat} {X : Bool} (hX : X = true ↔ (z.1 p s = z.1 p t ∧ z.1 (byA A a) s = z.1 (byA A a) t)) : (osA n Q z.1).set p (.row 3 .int (labL n (bif X then renR (z.1 p) (nx N s a) (nx N t a) else z.1 p))) = osA n Q (q2A N A p a s t z).1 := by
  unfold q2A
  cases X with
  | true => rw [if_pos (hX.1 rfl)]; exact osA_set _
  | false => rw [if_neg (fun h => by have := hX.2 h; cases this)]; exact osA_keep (c := false) rfl id
theorem up2 {X : Bool} (hX : X = true ↔ (z.1 p s = z.1 p t ∧ z.1 (byA A a) s = z.1 (byA A a) t)) (h : (bif X then decide (z.1 p (nx N s a) ≠ z.1 p (nx N t a)) else false) = true) : true = (q2A N A p a s t z).2 := by
  unfold q2A
  cases X with
  | false => cases h
  | true =>
    rw [if_pos (hX.1 rfl)]
    show true = (bif decide (z.1 p (nx N s a) ≠ z.1 p (nx N t a)) then true else z.2)
    rw [show decide (z.1 p (nx N s a) ≠ z.1 p (nx N t a)) = true from h]
    rfl
theorem still2 {X : Bool} (hX : X = true ↔ (z.1 p s = z.1 p t ∧ z.1 (byA A a) s = z.1 (byA A a) t)) (h : (bif X then decide (z.1 p (nx N s a) ≠ z.1 p (nx N t a)) else false) = false) : z.2 = (q2A N A p a s t z).2 := by
  unfold q2A
  cases X with
  | false => rw [if_neg (fun h => by have := hX.2 h; cases this)]
  | true =>
    rw [if_pos (hX.1 rfl)]
    show z.2 = (bif decide (z.1 p (nx N s a) ≠ z.1 p (nx N t a)) then true else z.2)
    rw [show decide (z.1 p (nx N s a) ≠ z.1 p (nx N t a)) = false from h]
    rfl
theorem lab_cond {n : Nat} {R : RF} {b : Nat} (hs : s < n) (ht : t < n) : (bif decide ((labL n (R p)).getD s 0 = (labL n (R p)).getD t 0) then decide ((labL n (R b)).getD s 0 = (labL n (R b)).getD t 0) else false) = true ↔ (R p s = R p t ∧ R b s = R b t) := by
  rw [labL_get hs, labL_get ht, labL_get hs, labL_get ht]
  simp only [Bool.cond_false_right, Bool.and_eq_true, decide_eq_true_eq]
  omega
end
def labT (n P : Nat) (R : RF) : List (List Int) := (List.range P).map fun q => labL n (R q)
theorem labT_len (n P : Nat) (R : RF) : (labT n P R).length = P := by simp [labT]
theorem labT_get {n P : Nat} {R : RF} {i : Nat} (h : i < P) : (labT n P R).getD i [] = labL n (R i) := by simp [labT, List.getD, h]
theorem osA_rows (n P : Nat) (R : RF) : osA n P R = (labT n P R).map fun r => OD.row 3 .int r := by
  unfold osA labT
  rw [List.map_map]
  rfl
def numT (n : Nat) (R : RF) (i : Nat) : List (List Int) := (List.range i).map fun q => outV (R q) (2 ^ n - 1) n n
theorem numT_len (n : Nat) (R : RF) (i : Nat) : (numT n R i).length = i := by simp [numT]
def osN (n : Nat) (R : RF) (i : Nat) : List OD := (numT n R i).map fun r => OD.row 3 .int r
theorem osN_len (n : Nat) (R : RF) (i : Nat) : (osN n R i).length = i := by simp [osN, numT]
theorem osN_dead (n : Nat) (R : RF) (i : Nat) : (osN n R i ++ [OD.dead])[i]? = some OD.dead := by
  rw [List.getElem?_append_right (by rw [osN_len]; omega), osN_len, Nat.sub_self]; rfl
theorem osN_next (n : Nat) (R : RF) (i : Nat) : (osN n R i ++ [OD.dead]).set i (.row 3 .int (outV (R i) (2 ^ n - 1) n n)) = osN n R (i + 1) := by
  have h := set_last (osN n R i) (.dead : OD) (.row 3 .int (outV (R i) (2 ^ n - 1) n n))
  rw [osN_len] at h
  rw [h]
  simp [osN, numT, List.range_succ]
theorem all_bits (n k : Nat) (h : k < n) : (2 ^ n - 1).testBit k = true := by rw [Nat.testBit_two_pow_sub_one, decide_eq_true h]
theorem FinA.views {P : Int} {A : List Int} {N S : List (List Int)} {f : List Int} {R : RF} (h : FinA P A N f R) (hb : ∀ a, a < A.length → byA A a < P.toNat) (hn : ∀ s a, s < N.length → a < A.length → nx N s a < N.length) (he : polE P A N S f = 0) : numT N.length R P.toNat = bviewsV P A N S f := by
  unfold bviewsV
  rw [if_pos he]
  unfold numT bvL
  refine List.map_congr_left fun p hp => ?_
  have hp := List.mem_range.1 hp
  rw [← out_num (x := 2 ^ N.length - 1) fun k hk => all_bits N.length k hk]
  exact outV_same fun s t hs ht => (h.iff hb hn hp hs ht).trans fB_iff.symm

/-! ### Sources, from the front -/

def srcOn (A f : List Int) (a : Int) (set : Nat) : Bool := decide ((f.getD (A.getD a.toNat 0).toNat 0).toNat &&& set ≠ 0)
theorem srcS_tail (A f : List Int) (part : Int) (a : Int) (w : List Int) : ∀ k, k ≤ w.length → srcS A f part (a :: w) k = srcS A f part w k
  | 0, _ => rfl
  | k + 1, hk => by
    have e : (a :: w).getD ((a :: w).length - 1 - k) 0 = w.getD (w.length - 1 - k) 0 := by
      rw [List.length_cons, show w.length + 1 - 1 - k = (w.length - 1 - k) + 1 by omega]
      rfl
    rw [srcS, srcS, srcS_tail A f part a w k (by omega), e]
theorem src_cons (A f : List Int) (part : Int) (a : Int) (w : List Int) : srcS A f part (a :: w) (a :: w).length = if srcOn A f a (srcN A f part w) = true then (srcN A f part w ||| 2 ^ (A.getD a.toNat 0).toNat, (srcS A f part w w.length).2 ++ [a]) else srcS A f part w w.length := by
  have e : (a :: w).getD ((a :: w).length - 1 - w.length) 0 = a := by
    rw [List.length_cons, show w.length + 1 - 1 - w.length = 0 by omega]
    rfl
  rw [show (a :: w).length = w.length + 1 from rfl, srcS, srcS_tail A f part a w w.length (Nat.le_refl _)]
  rw [e]
  unfold srcOn srcN
  by_cases h : (f.getD (A.getD a.toNat 0).toNat 0).toNat &&& (srcS A f part w w.length).1 ≠ 0
  · rw [if_pos h, if_pos (decide_eq_true h)]
  · rw [if_neg h, if_neg fun hh => h (of_decide_eq_true hh)]
theorem srcN_cons (A f : List Int) (part : Int) (a : Int) (w : List Int) : srcN A f part (a :: w) = if srcOn A f a (srcN A f part w) = true then srcN A f part w ||| 2 ^ (A.getD a.toNat 0).toNat else srcN A f part w := by
  show (srcS A f part (a :: w) (a :: w).length).1 = _
  rw [src_cons]
  split <;> rfl
theorem betL_cons (A f : List Int) (part : Int) (a : Int) (w : List Int) : betL A f part (a :: w) = if srcOn A f a (srcN A f part w) = true then a :: betL A f part w else betL A f part w := by
  show (srcS A f part (a :: w) (a :: w).length).2.reverse = _
  rw [src_cons]
  split
  · show ((srcS A f part w w.length).2 ++ [a]).reverse = _
    rw [List.reverse_append]; rfl
  · rfl
theorem srcN_nil (A f : List Int) (part : Int) : srcN A f part [] = 2 ^ part.toNat := rfl


theorem named_at {n Q : Nat} {R : RF} {i : Nat} (hi : i < Q) (hn : n ≤ 16) (y : Int) (hy : y = ((2 ^ n - 1 : Nat) : Int)) : LiftsN Tryd.prog 77 [.sl .int ((labT n Q R).getD i []), .i y] (.row 3 .int (outV (R i) (2 ^ n - 1) n n)) := by
  subst hy
  rw [labT_get hi]
  have : 2 ^ n ≤ 2 ^ 16 := Nat.pow_le_pow_right (by decide) hn
  exact named_fn n (2 ^ n - 1) (R i) (by omega) (by omega)

end Go.Proofs.YtndoigkmdcgjfaaDoor
