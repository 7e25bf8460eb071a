/-
  WHAT IS ALIKE TO ALL PARTS AT ONCE, through others: the plain law.
-/
import Derived.Test.YtndoigkmdcgjfaaDoorQwRp
import Derived.Test.YtndoigkmdcgjfaaDoorQwNm
import Derived.Test.YtndoigkmdcgjfaaDoorQwMx
namespace Go.Proofs.YtndoigkmdcgjfaaDoor
open Go Go.Qw
set_option maxRecDepth 10000
set_option linter.unusedSimpArgs false
set_option linter.unusedVariables false
set_option linter.unusedSectionVars false

/-! ### Of all parts at once: who stands for whom -/

abbrev RF := Nat → Nat → Nat
def updR (R : RF) (p : Nat) (ρ : Nat → Nat) : RF := fun q => if q = p then ρ else R q
theorem updR_same (R : RF) (p : Nat) (ρ : Nat → Nat) : updR R p ρ p = ρ := if_pos rfl
theorem updR_other {R : RF} {p q : Nat} (ρ : Nat → Nat) (h : q ≠ p) : updR R p ρ q = R q := if_neg h
def joinB (R : RF) (p i j : Nat) : RF := updR R p (joinR (R p) i j)
/-- Whose act a is. -/
def byA (A : List Int) (a : Nat) : Nat := (A.getD a 0).toNat
/-- WHAT IS ALIKE TO A PART THROUGH OTHERS: no more than must be. -/
inductive Clo (P n m : Nat) (nt : Nat → Nat → Nat) (own : Nat → Nat) (qa : Nat → Nat → Bool) : Nat → Nat → Nat → Prop
  | refl {p s : Nat} : Clo P n m nt own qa p s s
  | symm {p s t : Nat} : Clo P n m nt own qa p s t → Clo P n m nt own qa p t s
  | trans {p s t u : Nat} : Clo P n m nt own qa p s t → Clo P n m nt own qa p t u → Clo P n m nt own qa p s u
  | one {p s a : Nat} : p < P → s < n → a < m → qa p a = true → Clo P n m nt own qa p s (nt s a)
  | two {p s t a : Nat} : p < P → s < n → t < n → a < m → Clo P n m nt own qa p s t → Clo P n m nt own qa (own a) s t → Clo P n m nt own qa p (nt s a) (nt t a)
abbrev CloB (P : Int) (A : List Int) (N : List (List Int)) (f : List Int) : Nat → Nat → Nat → Prop := Clo P.toNat N.length A.length (nx N) (byA A) fun p a => qaF A f (p : Int) a

theorem joinR_snd {n : Nat} {ρ : Nat → Nat} {E : Nat → Nat → Prop} (hs : ∀ {s t : Nat}, E s t → E t s) (ht : ∀ {s t u : Nat}, E s t → E t u → E s u) (h : ∀ s t, s < n → t < n → ρ s = ρ t → E s t) {i j : Nat} (hi : i < n) (hj : j < n) (hij : E i j) : ∀ s t, s < n → t < n → joinR ρ i j s = joinR ρ i j t → E s t := by
  intro s t hsn htn he
  have key : ∀ u, u < n → (joinR ρ i j u = ρ u ∧ ρ u ≠ max (ρ i) (ρ j)) ∨ (joinR ρ i j u = min (ρ i) (ρ j) ∧ E u i) := fun u hu => by
    unfold joinR
    by_cases h1 : ρ u = max (ρ i) (ρ j)
    · rw [if_pos h1]
      refine .inr ⟨rfl, ?_⟩
      rcases Nat.le_total (ρ i) (ρ j) with hle | hle
      · rw [Nat.max_eq_right hle] at h1
        exact ht (h u j hu hj h1) (hs hij)
      · rw [Nat.max_eq_left hle] at h1
        exact h u i hu hi h1
    · rw [if_neg h1]
      exact .inl ⟨rfl, h1⟩
  have low : ∀ u, u < n → ρ u = min (ρ i) (ρ j) → E u i := fun u hu hh => by
    rcases Nat.le_total (ρ i) (ρ j) with hle | hle
    · rw [Nat.min_eq_left hle] at hh
      exact h u i hu hi hh
    · rw [Nat.min_eq_right hle] at hh
      exact ht (h u j hu hj hh) (hs hij)
  rcases key s hsn with ⟨e1, _⟩ | ⟨e1, f1⟩ <;> rcases key t htn with ⟨e2, _⟩ | ⟨e2, f2⟩
  · exact h s t hsn htn (by rw [← e1, he, e2])
  · exact ht (low s hsn (by rw [← e1, he, e2])) (hs f2)
  · exact ht f1 (hs (low t htn (by rw [← e2, ← he, e1])))
  · exact ht f1 (hs f2)
theorem joinR_kp {ρ : Nat → Nat} {i j s t : Nat} (h : ρ s = ρ t) : joinR ρ i j s = joinR ρ i j t := by unfold joinR; rw [h]
theorem joinR_two {n : Nat} {ρ : Nat → Nat} {i j : Nat} : joinR ρ i j i = joinR ρ i j j := by
  unfold joinR
  rcases Nat.lt_trichotomy (ρ i) (ρ j) with h | h | h
  · rw [if_neg (by omega), if_pos (by omega)]; omega
  · rw [h]
  · rw [if_pos (by omega), if_neg (by omega)]; omega

structure GoodB (P : Int) (A : List Int) (N : List (List Int)) (f : List Int) (R : RF) : Prop where
  rep : ∀ p, RepP N.length (R p)
  snd : ∀ p, p < P.toNat → ∀ s t, s < N.length → t < N.length → R p s = R p t → CloB P A N f p s t
def OneB (P : Int) (A : List Int) (N : List (List Int)) (f : List Int) (R : RF) (p s a : Nat) : Prop :=
  ∀ q u b, q < P.toNat → u < N.length → b < A.length → (q < p ∨ q = p ∧ (u < s ∨ u = s ∧ b < a)) → qaF A f (q : Int) b = true → R q u = R q (nx N u b)
def DoneB (P : Int) (A : List Int) (N : List (List Int)) (R : RF) (p s t a : Nat) : Prop :=
  ∀ q u v b, q < P.toNat → u < N.length → v < u → b < A.length → (q < p ∨ q = p ∧ (u < s ∨ u = s ∧ (v < t ∨ v = t ∧ b < a))) → R q u = R q v → R (byA A b) u = R (byA A b) v → R q (nx N u b) = R q (nx N v b)
def mesB (R : RF) (n : Nat) : Nat → Nat
  | 0 => 0
  | p + 1 => mesB R n p + repN (R p) n
theorem mesB_congr {R R' : RF} {n : Nat} : ∀ {p : Nat}, (∀ q, q < p → R q = R' q) → mesB R n p = mesB R' n p
  | 0, _ => rfl
  | p + 1, h => by rw [mesB, mesB, mesB_congr fun q hq => h q (by omega), h p (by omega)]
theorem mesB_join {R : RF} {n p i j : Nat} (r : RepP n (R p)) (hi : i < n) (hj : j < n) (hne : R p i ≠ R p j) : ∀ {P : Nat}, p < P → mesB (joinB R p i j) n P < mesB R n P
  | 0, h => by omega
  | P + 1, h => by
    rw [mesB, mesB]
    by_cases hp : p = P
    · subst hp
      have h1 : mesB (joinB R p i j) n p = mesB R n p := mesB_congr fun q hq => updR_other _ (by omega)
      have h2 : joinB R p i j p = joinR (R p) i j := updR_same _ _ _
      have h3 := r.join_lt hi hj hne
      rw [h1, h2]; omega
    · have ih := mesB_join r hi hj hne (show p < P by omega)
      have h2 : joinB R p i j P = R P := updR_other _ (by omega)
      rw [h2]; omega
theorem joinB_same {R : RF} {n p i j : Nat} (r : RepP n (R p)) (hi : i < n) (hj : j < n) (h : R p i = R p j) : joinB R p i j = R := by
  funext q
  unfold joinB updR
  split
  · rename_i hq; subst hq; exact r.join_same hi hj h
  · rfl
section
variable {P : Int} {A : List Int} {N : List (List Int)} {f : List Int} {R : RF}
theorem GoodB.id_ : GoodB P A N f fun _ => id := ⟨fun _ => rep_id _, fun p _ s t _ _ h => by
  have h : s = t := h
  subst h; exact .refl⟩
theorem GoodB.join (g : GoodB P A N f R) {p i j : Nat} (hi : i < N.length) (hj : j < N.length) (hc : CloB P A N f p i j) : GoodB P A N f (joinB R p i j) := by
  refine ⟨fun q => ?_, fun q hq s t hs ht he => ?_⟩
  · unfold joinB updR
    split
    · exact (g.rep p).join hi hj
    · exact g.rep q
  · unfold joinB updR at he
    by_cases hqp : q = p
    · subst hqp
      rw [if_pos rfl] at he
      exact joinR_snd (E := CloB P A N f q) (fun h => h.symm) (fun h k => h.trans k) (g.snd q hq) hi hj hc s t hs ht he
    · rw [if_neg hqp] at he
      exact g.snd q hq s t hs ht he
theorem joinB_keep {p i j q s t : Nat} (h : R q s = R q t) : joinB R p i j q s = joinB R p i j q t := by
  unfold joinB updR
  split
  · rename_i hq; subst hq; exact joinR_kp h
  · exact h
theorem OneB.join {p i j p0 s0 a0 : Nat} (h : OneB P A N f R p0 s0 a0) : OneB P A N f (joinB R p i j) p0 s0 a0 := fun q u b h1 h2 h3 h4 h5 => joinB_keep (h q u b h1 h2 h3 h4 h5)
theorem OneB.zero : OneB P A N f R 0 0 0 := fun q u b h1 h2 h3 h4 => by omega
theorem OneB.yes {p s a : Nat} (h : OneB P A N f R p s a) : OneB P A N f (joinB R p s (nx N s a)) p s (a + 1) := fun q u b h1 h2 h3 h4 h5 => by
  by_cases he : q = p ∧ u = s ∧ b = a
  · obtain ⟨rfl, rfl, rfl⟩ := he
    unfold joinB
    rw [updR_same]
    exact joinR_two (n := N.length)
  · exact joinB_keep (h q u b h1 h2 h3 (by omega) h5)
theorem OneB.no {p s a : Nat} (h : OneB P A N f R p s a) (hq : ¬qaF A f (p : Int) a = true) : OneB P A N f R p s (a + 1) := fun q u b h1 h2 h3 h4 h5 => by
  by_cases he : q = p ∧ u = s ∧ b = a
  · obtain ⟨rfl, rfl, rfl⟩ := he
    exact absurd h5 hq
  · exact h q u b h1 h2 h3 (by omega) h5
theorem OneB.nextS {p s : Nat} (h : OneB P A N f R p s A.length) : OneB P A N f R p (s + 1) 0 := fun q u b h1 h2 h3 h4 h5 => h q u b h1 h2 h3 (by omega) h5
theorem OneB.nextP {p : Nat} (h : OneB P A N f R p N.length 0) : OneB P A N f R (p + 1) 0 0 := fun q u b h1 h2 h3 h4 h5 => h q u b h1 h2 h3 (by omega) h5

/-- Where a round of the second phase stands. -/
structure Inv2B (P : Int) (A : List Int) (N : List (List Int)) (f : List Int) (R0 : RF) (z : RF × Bool) (p s t a : Nat) : Prop where
  good : GoodB P A N f z.1
  one : OneB P A N f z.1 P.toNat 0 0
  st : (z.2 = false ∧ z.1 = R0 ∧ DoneB P A N R0 p s t a) ∨ (z.2 = true ∧ mesB z.1 N.length P.toNat < mesB R0 N.length P.toNat)
theorem Inv2B.start (g : GoodB P A N f R) (h : OneB P A N f R P.toNat 0 0) : Inv2B P A N f R (R, false) 0 0 0 0 := ⟨g, h, .inl ⟨rfl, rfl, fun q u v b h1 h2 h3 h4 h5 => by omega⟩⟩
variable {R0 : RF} {z : RF × Bool} {p s t a : Nat}
theorem Inv2B.go (h : Inv2B P A N f R0 z p s t a) {p' s' t' a' : Nat} (hd : z.1 = R0 → DoneB P A N R0 p s t a → DoneB P A N R0 p' s' t' a') : Inv2B P A N f R0 z p' s' t' a' := by
  refine ⟨h.good, h.one, ?_⟩
  rcases h.st with ⟨h1, h2, h3⟩ | h4
  · exact .inl ⟨h1, h2, hd h2 h3⟩
  · exact .inr h4
theorem Inv2B.nextT (h : Inv2B P A N f R0 z p s t A.length) : Inv2B P A N f R0 z p s (t + 1) 0 := h.go fun _ hd q u v b h1 h2 h3 h4 h5 => hd q u v b h1 h2 h3 h4 (by omega)
theorem Inv2B.nextS (h : Inv2B P A N f R0 z p s s 0) : Inv2B P A N f R0 z p (s + 1) 0 0 := h.go fun _ hd q u v b h1 h2 h3 h4 h5 => hd q u v b h1 h2 h3 h4 (by omega)
theorem Inv2B.nextP (h : Inv2B P A N f R0 z p N.length 0 0) : Inv2B P A N f R0 z (p + 1) 0 0 0 := h.go fun _ hd q u v b h1 h2 h3 h4 h5 => hd q u v b h1 h2 h3 h4 (by omega)
theorem Inv2B.skip (h : Inv2B P A N f R0 z p s t 0) (hne : z.1 p s ≠ z.1 p t) : Inv2B P A N f R0 z p s (t + 1) 0 := h.go fun he hd q u v b h1 h2 h3 h4 h5 => by
  by_cases hc : q = p ∧ u = s ∧ v = t
  · obtain ⟨rfl, rfl, rfl⟩ := hc
    intro h6
    rw [he] at hne
    exact absurd h6 hne
  · exact hd q u v b h1 h2 h3 h4 (by omega)
theorem Inv2B.no (h : Inv2B P A N f R0 z p s t a) (hne : z.1 (byA A a) s ≠ z.1 (byA A a) t) : Inv2B P A N f R0 z p s t (a + 1) := h.go fun he hd q u v b h1 h2 h3 h4 h5 => by
  by_cases hc : q = p ∧ u = s ∧ v = t ∧ b = a
  · obtain ⟨rfl, rfl, rfl, rfl⟩ := hc
    intro _ h7
    rw [he] at hne
    exact absurd h7 hne
  · exact hd q u v b h1 h2 h3 h4 (by omega)
/-- The state behind a join. -/
def stB (z : RF × Bool) (p i j : Nat) : RF × Bool := (joinB z.1 p i j, bif decide (z.1 p i ≠ z.1 p j) then true else z.2)
theorem Inv2B.yes (h : Inv2B P A N f R0 z p s t a) (hp : p < P.toNat) (hs : s < N.length) (ht : t < N.length) (ha : a < A.length) (hx : nx N s a < N.length) (hy : nx N t a < N.length) (hb : byA A a < P.toNat) (e1 : z.1 p s = z.1 p t) (e2 : z.1 (byA A a) s = z.1 (byA A a) t) : Inv2B P A N f R0 (stB z p (nx N s a) (nx N t a)) p s t (a + 1) := by
  have hc : CloB P A N f p (nx N s a) (nx N t a) := .two hp hs ht ha (h.good.snd p hp s t hs ht e1) (h.good.snd _ hb s t hs ht e2)
  refine ⟨h.good.join hx hy hc, h.one.join, ?_⟩
  by_cases he : z.1 p (nx N s a) = z.1 p (nx N t a)
  · have hz : stB z p (nx N s a) (nx N t a) = z := by
      unfold stB
      rw [joinB_same (h.good.rep p) hx hy he, decide_eq_false (by simpa using he)]
      rfl
    rw [hz]
    rcases h.st with ⟨h1, h2, h3⟩ | h4
    · refine .inl ⟨h1, h2, fun q u v b g1 g2 g3 g4 g5 g6 g7 => ?_⟩
      by_cases hcc : q = p ∧ u = s ∧ v = t ∧ b = a
      · obtain ⟨rfl, rfl, rfl, rfl⟩ := hcc
        rw [h2] at he
        exact he
      · exact h3 q u v b g1 g2 g3 g4 (by omega) g6 g7
    · exact .inr h4
  · have hm := mesB_join (h.good.rep p) hx hy he hp (P := P.toNat)
    refine .inr ⟨by unfold stB; rw [decide_eq_true he]; rfl, ?_⟩
    rcases h.st with ⟨_, h2, _⟩ | ⟨_, h4⟩
    · rw [← h2]; exact hm
    · exact Nat.lt_trans hm h4

/-- All is done. -/
structure FinB (P : Int) (A : List Int) (N : List (List Int)) (f : List Int) (R : RF) : Prop where
  good : GoodB P A N f R
  one : OneB P A N f R P.toNat 0 0
  done : DoneB P A N R P.toNat 0 0 0
theorem FinB.step1 (h : FinB P A N f R) {p s a : Nat} (hp : p < P.toNat) (hs : s < N.length) (ha : a < A.length) (hq : qaF A f (p : Int) a = true) : R p s = R p (nx N s a) := h.one p s a hp hs ha (.inl hp) hq
theorem FinB.step2 (h : FinB P A N f R) {p s t a : Nat} (hp : p < P.toNat) (hs : s < N.length) (ht : t < N.length) (ha : a < A.length) (e1 : R p s = R p t) (e2 : R (byA A a) s = R (byA A a) t) : R p (nx N s a) = R p (nx N t a) := by
  rcases Nat.lt_trichotomy s t with hlt | rfl | hlt
  · exact (h.done p t s a hp ht hlt ha (.inl hp) e1.symm e2.symm).symm
  · rfl
  · exact h.done p s t a hp hs hlt ha (.inl hp) e1 e2
theorem FinB.all (h : FinB P A N f R) (hb : ∀ a, a < A.length → byA A a < P.toNat) (hn : ∀ s a, s < N.length → a < A.length → nx N s a < N.length) {p s t : Nat} (hc : CloB P A N f p s t) : p < P.toNat → s < N.length → t < N.length → R p s = R p t := by
  intro hp hs ht
  -- all that is said of one in range is said of ones in range
  have key : ∀ {p s t}, CloB P A N f p s t → p < P.toNat → (s < N.length ↔ t < N.length) ∧ (s < N.length → t < N.length → R p s = R p t) := by
    intro p s t hc
    induction hc with
    | refl => exact fun _ => ⟨Iff.rfl, fun _ _ => rfl⟩
    | symm _ ih => exact fun hp => ⟨(ih hp).1.symm, fun h1 h2 => ((ih hp).2 h2 h1).symm⟩
    | trans _ _ ih1 ih2 => exact fun hp => ⟨(ih1 hp).1.trans (ih2 hp).1, fun h1 h2 => ((ih1 hp).2 h1 ((ih1 hp).1.1 h1)).trans ((ih2 hp).2 ((ih1 hp).1.1 h1) h2)⟩
    | one h1 h2 h3 h4 => exact fun hp => ⟨⟨fun _ => hn _ _ h2 h3, fun _ => h2⟩, fun _ _ => h.step1 hp h2 h3 h4⟩
    | two h1 h2 h3 h4 _ _ ih1 ih2 => exact fun hp => ⟨⟨fun _ => hn _ _ h3 h4, fun _ => hn _ _ h2 h4⟩, fun _ _ => h.step2 hp h2 h3 h4 ((ih1 hp).2 h2 h3) ((ih2 (hb _ h4)).2 h2 h3)⟩
  exact (key hc hp).2 hs ht
end
section
open Classical
/-- The first one, from j on, of n at most. -/
noncomputable def firstE (E : Nat → Prop) : Nat → Nat → Nat
  | 0, j => j
  | n + 1, j => if E j then j else firstE E n (j + 1)
theorem firstE_is {E : Nat → Prop} {m : Nat} (hm : E m) : ∀ (n j : Nat), j ≤ m → m ≤ j + n → (∀ i, j ≤ i → i < m → ¬E i) → firstE E n j = m
  | 0, j, h1, h2, _ => by unfold firstE; omega
  | n + 1, j, h1, h2, h3 => by
    unfold firstE
    by_cases he : j = m
    · subst he; rw [if_pos hm]
    · rw [if_neg (h3 j (Nat.le_refl _) (by omega))]
      exact firstE_is hm n (j + 1) (by omega) (by omega) fun i hi hi2 => h3 i (by omega) hi2
end
/-- The first one that is alike. -/
noncomputable def fB (P : Int) (A : List Int) (N : List (List Int)) (f : List Int) (p k : Nat) : Nat := firstE (fun j => CloB P A N f p j k) k 0
theorem FinB.is {P : Int} {A : List Int} {N : List (List Int)} {f : List Int} {R : RF} (h : FinB P A N f R) (hb : ∀ a, a < A.length → byA A a < P.toNat) (hn : ∀ s a, s < N.length → a < A.length → nx N s a < N.length) {p k : Nat} (hp : p < P.toNat) (hk : k < N.length) : R p k = fB P A N f p k := by
  have r := h.good.rep p
  have hle := r.le k hk
  have hown := r.own k hk
  refine (firstE_is (E := fun j => CloB P A N f p j k) (m := R p k) (h.good.snd p hp _ _ (by omega) hk hown) k 0 (Nat.zero_le _) (by omega) fun i _ hi hc => ?_).symm
  have := h.all hb hn hc hp (by omega) hk
  have := r.le i (by omega)
  omega
/-- Alike is what has the same first one. -/
theorem FinB.iff {P : Int} {A : List Int} {N : List (List Int)} {f : List Int} {R : RF} (h : FinB P A N f R) (hb : ∀ a, a < A.length → byA A a < P.toNat) (hn : ∀ s a, s < N.length → a < A.length → nx N s a < N.length) {p s t : Nat} (hp : p < P.toNat) (hs : s < N.length) (ht : t < N.length) : R p s = R p t ↔ CloB P A N f p s t :=
  ⟨h.good.snd p hp s t hs ht, fun hc => h.all hb hn hc hp hs ht⟩

/-! ### Rows of groups; their numberings -/

def osB (n P : Nat) (R : RF) (p : Nat) : List OD := (List.range P).map fun q => if q < p then grpO n (R q) else .dead
theorem osB_len (n P : Nat) (R : RF) (p : Nat) : (osB n P R p).length = P := by simp [osB]
theorem osB_get {n P : Nat} {R : RF} {p q : Nat} (hq : q < p) (hP : q < P) : (osB n P R p)[q]? = some (grpO n (R q)) := by simp [osB, hP, hq]
theorem osB_dead {n P : Nat} {R : RF} {p q : Nat} (hq : ¬q < p) (hP : q < P) : (osB n P R p)[q]? = some .dead := by simp [osB, hP, hq]
theorem osB_zero (n P : Nat) (R : RF) : List.replicate P OD.dead = osB n P R 0 := by
  refine List.ext_getElem (by simp [osB]) fun k h1 h2 => by simp [osB]
theorem osB_set {n P : Nat} {R : RF} {p q : Nat} (hq : q < p) (ρ : Nat → Nat) : (osB n P R p).set q (grpO n ρ) = osB n P (updR R q ρ) p := by
  refine List.ext_getElem (by simp [osB]) fun k h1 h2 => ?_
  simp only [osB, List.getElem_set, List.getElem_map, List.getElem_range, updR]
  by_cases h : q = k
  · subst h; rw [if_pos rfl, if_pos hq, if_pos rfl]
  · have h' : ¬k = q := fun e => h e.symm
    simp only [if_neg h, if_neg h']
theorem osB_new {n P : Nat} {R : RF} {p : Nat} (h : R p = id) : (osB n P R p).set p (grpO n id) = osB n P R (p + 1) := by
  refine List.ext_getElem (by simp [osB]) fun k h1 h2 => ?_
  simp only [osB, List.getElem_set, List.getElem_map, List.getElem_range]
  by_cases hk : p = k
  · subst hk; rw [if_pos rfl, if_pos (by omega), h]
  · rw [if_neg hk]
    by_cases h3 : k < p
    · rw [if_pos h3, if_pos (by omega)]
    · rw [if_neg h3, if_neg (by omega)]
theorem osB_same {n P : Nat} {R : RF} {p q : Nat} (hq : q < p) : (osB n P R p).set q (grpO n (R q)) = osB n P R p := by
  rw [osB_set hq]
  congr 1
  funext k
  unfold updR
  split
  · rename_i h; subst h; rfl
  · rfl
def numR (n : Nat) (ρ : Nat → Nat) : List Int := numQ .int ((List.range n).map fun k => ((ρ k : Nat) : Int)) n
theorem numR_len (n : Nat) (ρ : Nat → Nat) : (numR n ρ).length = n := numQ_len _ _ _
theorem numR_congr {n : Nat} {ρ τ : Nat → Nat} (h : ∀ k, k < n → ρ k = τ k) : numR n ρ = numR n τ := by
  unfold numR
  congr 1
  refine List.map_congr_left fun k hk => ?_
  rw [h k (List.mem_range.1 hk)]
theorem numR_eq {n : Nat} {ρ : Nat → Nat} {i j : Nat} (hi : i < n) (hj : j < n) : (numR n ρ).getD i 0 = (numR n ρ).getD j 0 ↔ ρ i = ρ j := by
  unfold numR
  rw [num_eq _ hi hj]
  have e : ∀ k, k < n → List.getD ((List.range n).map fun k => ((ρ k : Nat) : Int)) k (dT .int) = ((ρ k : Nat) : Int) := fun k hk => by simp [List.getD, hk]
  rw [e i hi, e j hj]
  simp only [keyL, List.cons.injEq, and_true]
  omega
theorem names_grp {n : Nat} {ρ : Nat → Nat} (hn : n ≤ 1000000) : LiftsO Tryd.prog 57 [.ob 0] (grpO n ρ) (.sl .int (numR n ρ)) (grpO n ρ) :=
  LiftsO.ex ⟨_, Tryd.func57, by kernel_rfl, rfl⟩ fun g ⟨u, hl, hr⟩ => by
    obtain ⟨h1, h2, h3⟩ := gN_ok u g.length (Nat.le_refl _)
    refine ⟨gN g g.length, ⟨h1, by rw [h2, hl], fun k hk => by rw [h3, hr k hk]⟩, ?_⟩
    have := names_fn g u (by rw [hl]; exact hn)
    have e : namesG g = numR n ρ := by
      unfold namesG numR rootsL
      rw [hl]
      congr 1
      refine List.map_congr_left fun k hk => ?_
      rw [hr k (List.mem_range.1 hk)]
    rwa [e] at this
def bvL (n : Nat) (R : RF) (i : Nat) : List (List Int) := (List.range i).map fun p => numR n (R p)
theorem bvL_step (n : Nat) (R : RF) (i : Nat) : bvL n R i ++ [numR n (R i)] = bvL n R (i + 1) := by simp [bvL, List.range_succ]
theorem bvL_len (n : Nat) (R : RF) (i : Nat) : (bvL n R i).length = i := by simp [bvL]
theorem bvL_get {n : Nat} {R : RF} {i p : Nat} (h : p < i) : (bvL n R i).getD p [] = numR n (R p) := by simp [bvL, List.getD, h]
noncomputable def bviewsV (P : Int) (A : List Int) (N S : List (List Int)) (f : List Int) : List (List Int) := if polE P A N S f = 0 then bvL N.length (fB P A N f) P.toNat else []
theorem FinB.views {P : Int} {A : List Int} {N S : List (List Int)} {f : List Int} {R : RF} (h : FinB P A N f R) (hb : ∀ a, a < A.length → byA A a < P.toNat) (hn : ∀ s a, s < N.length → a < A.length → nx N s a < N.length) (he : polE P A N S f = 0) : bvL N.length R P.toNat = bviewsV P A N S f := by
  unfold bviewsV
  rw [if_pos he]
  unfold bvL
  refine List.map_congr_left fun p hp => numR_congr fun k hk => h.is hb hn (List.mem_range.1 hp) hk

end Go.Proofs.YtndoigkmdcgjfaaDoor
