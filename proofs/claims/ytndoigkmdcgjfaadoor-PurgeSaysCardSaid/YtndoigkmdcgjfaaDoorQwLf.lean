/-
  BY TWO STATES IN HOW MANY ACTS A PART SEES TWO THINGS AT SOONEST: the plain law of the table, and of the first acts.
-/
import Derived.Test.YtndoigkmdcgjfaaDoorQwLo
import Derived.Test.YtndoigkmdcgjfaaDoorQwRp
namespace Go.Proofs.YtndoigkmdcgjfaaDoor
open Go Go.Qw
set_option maxRecDepth 10000
set_option linter.unusedSimpArgs false
set_option linter.unusedVariables false
set_option linter.unusedSectionVars false

/-! ### Sums over a square -/

def sumQ (g : Nat → Nat) : Nat → Nat
  | 0 => 0
  | k + 1 => sumQ g k + g k
theorem sumQ_congr {g h : Nat → Nat} : ∀ {k : Nat}, (∀ i, i < k → g i = h i) → sumQ g k = sumQ h k
  | 0, _ => rfl
  | k + 1, e => by rw [sumQ, sumQ, sumQ_congr fun i hi => e i (by omega), e k (by omega)]
theorem sumQ_upd {g h : Nat → Nat} {i : Nat} : ∀ {k : Nat}, i < k → (∀ j, j < k → j ≠ i → h j = g j) → sumQ h k + g i = sumQ g k + h i
  | k + 1, hi, e => by
    rw [sumQ, sumQ]
    by_cases hk : i = k
    · subst hk
      rw [sumQ_congr (g := h) (h := g) fun j hj => e j (by omega) (by omega)]
      omega
    · have := sumQ_upd (k := k) (by omega) fun j hj hne => e j (by omega) hne
      have := e k (by omega) (by omega)
      omega
theorem sumQ_ge {g : Nat → Nat} {i : Nat} : ∀ {k : Nat}, i < k → g i ≤ sumQ g k
  | k + 1, hi => by
    rw [sumQ]
    by_cases hk : i = k
    · subst hk; omega
    · have := sumQ_ge (g := g) (k := k) (i := i) (by omega); omega
theorem sumQ_le {g : Nat → Nat} {b : Nat} : ∀ {k : Nat}, (∀ i, i < k → g i ≤ b) → sumQ g k ≤ k * b
  | 0, _ => by simp [sumQ]
  | k + 1, h => by
    have := sumQ_le (g := g) (k := k) fun i hi => h i (by omega)
    have := h k (by omega)
    rw [sumQ, Nat.succ_mul]
    omega
def sumS (g : Nat → Nat → Nat) (n : Nat) : Nat := sumQ (fun s => sumQ (g s) n) n
theorem sumS_upd {g h : Nat → Nat → Nat} {n s u : Nat} (hs : s < n) (hu : u < n) (e : ∀ s' u', s' < n → u' < n → ¬(s' = s ∧ u' = u) → h s' u' = g s' u') : sumS h n + g s u = sumS g n + h s u := by
  have h1 := sumQ_upd (g := fun s => sumQ (g s) n) (h := fun s => sumQ (h s) n) hs fun j hj hne => sumQ_congr fun i hi => e j i hj hi (fun hh => hne hh.1)
  have h2 := sumQ_upd (g := g s) (h := h s) hu fun j hj hne => e s j hs hj (fun hh => hne hh.2)
  unfold sumS
  have h1 : sumQ (fun s => sumQ (h s) n) n + sumQ (g s) n = sumQ (fun s => sumQ (g s) n) n + sumQ (h s) n := h1
  omega
theorem sumS_ge {g : Nat → Nat → Nat} {n s u : Nat} (hs : s < n) (hu : u < n) : g s u ≤ sumS g n :=
  Nat.le_trans (sumQ_ge (g := g s) hu) (sumQ_ge (g := fun s => sumQ (g s) n) hs)
theorem sumS_le {g : Nat → Nat → Nat} {n b : Nat} (h : ∀ s u, s < n → u < n → g s u ≤ b) : sumS g n ≤ n * (n * b) :=
  sumQ_le fun s hs => sumQ_le fun u hu => h s u hs hu

/-! ### By two states in how many acts two things are seen at soonest -/

section
variable (n m : Nat) (x y : Nat → Nat → Nat) (bad : Nat → Nat → Bool)
structure InL : Prop where
  x : ∀ s a, s < n → a < m → x s a < n
  y : ∀ s a, s < n → a < m → y s a < n
def cntT (T : Nat → Nat → Int) : Nat := sumS (fun s u => if T s u < 0 then 0 else 1) n
def mesT (T : Nat → Nat → Int) : Nat := sumS (fun s u => if T s u < 0 then n * n + 1 else (T s u).toNat) n
def updT (T : Nat → Nat → Int) (s u : Nat) (v : Int) : Nat → Nat → Int := fun s' u' => if s' = s ∧ u' = u then v else T s' u'
structure GoodL (T : Nat → Nat → Int) : Prop where
  sound : ∀ s u, s < n → u < n → 0 ≤ T s u → ∃ w : List Nat, (w.length : Int) = T s u ∧ (∀ a ∈ w, a < m) ∧ bad (w.foldl x s) (w.foldl y u) = true
  zero : ∀ s u, s < n → u < n → bad s u = true → T s u = 0
  bnd : ∀ s u, s < n → u < n → T s u < (cntT n T : Int)
def closeL (T : Nat → Nat → Int) (s u a : Nat) : Prop := 0 ≤ T (x s a) (y u a) → 0 ≤ T s u ∧ T s u ≤ T (x s a) (y u a) + 1
def startT (s u : Nat) : Int := if bad s u = true then 0 else -1
end
section
variable {n m : Nat} {x y : Nat → Nat → Nat} {bad : Nat → Nat → Bool} {T : Nat → Nat → Int}
theorem cntT_le : cntT n T ≤ n * n := by
  have := sumS_le (g := fun s u => if T s u < 0 then 0 else 1) (n := n) (b := 1) fun s u _ _ => by
    show (if T s u < 0 then 0 else 1) ≤ 1
    split <;> omega
  rwa [Nat.mul_one] at this
theorem GoodL.top (g : GoodL n m x y bad T) {s u : Nat} (hs : s < n) (hu : u < n) : T s u < (n * n : Nat) := by
  have h1 := g.bnd s u hs hu
  have h2 := cntT_le (n := n) (T := T)
  omega
theorem GoodL.start : GoodL n m x y bad (startT bad) := by
  refine ⟨fun s u hs hu h => ?_, fun s u _ _ h => by unfold startT; rw [if_pos h], fun s u hs hu => ?_⟩
  · by_cases hb : bad s u = true
    · exact ⟨[], (by unfold startT; rw [if_pos hb]; rfl), (fun a ha => (by cases ha)), hb⟩
    · unfold startT at h
      rw [if_neg hb] at h
      omega
  · by_cases hb : bad s u = true
    · have h1 := sumS_ge (g := fun s u => if startT bad s u < 0 then 0 else 1) hs hu
      have e : startT bad s u = 0 := by unfold startT; rw [if_pos hb]
      have h1 : (if startT bad s u < 0 then 0 else 1) ≤ cntT n (startT bad) := h1
      rw [e, if_neg (by omega)] at h1
      rw [e]
      omega
    · have e : startT bad s u = -1 := by unfold startT; rw [if_neg hb]
      rw [e]
      omega
theorem updT_self (T : Nat → Nat → Int) (s u : Nat) (v : Int) : updT T s u v s u = v := by unfold updT; rw [if_pos ⟨rfl, rfl⟩]
theorem updT_other (T : Nat → Nat → Int) {s u s' u' : Nat} (v : Int) (h : ¬(s' = s ∧ u' = u)) : updT T s u v s' u' = T s' u' := by unfold updT; rw [if_neg h]
theorem GoodL.step (i : InL n m x y) (g : GoodL n m x y bad T) {s u a : Nat} (hs : s < n) (hu : u < n) (ha : a < m) (hk : 0 ≤ T (x s a) (y u a)) (hc : T s u < 0 ∨ T (x s a) (y u a) + 1 < T s u) :
    GoodL n m x y bad (updT T s u (T (x s a) (y u a) + 1)) ∧ mesT n (updT T s u (T (x s a) (y u a) + 1)) < mesT n T := by
  have hx := i.x s a hs ha
  have hy := i.y u a hu ha
  have hb := g.bnd _ _ hx hy
  have htop := g.top hx hy
  have hts := g.top hs hu
  generalize hv : T (x s a) (y u a) + 1 = v at *
  have e1 := sumS_upd (g := fun s u => if T s u < 0 then 0 else 1) (h := fun s' u' => if updT T s u v s' u' < 0 then 0 else 1) hs hu fun s' u' _ _ hne => by
    show (if updT T s u v s' u' < 0 then 0 else 1) = if T s' u' < 0 then 0 else 1
    rw [updT_other T v hne]
  have e1 : cntT n (updT T s u v) + (if T s u < 0 then 0 else 1) = cntT n T + (if updT T s u v s u < 0 then 0 else 1) := e1
  rw [updT_self, if_neg (show ¬v < 0 by omega)] at e1
  have e2 := sumS_upd (g := fun s u => if T s u < 0 then n * n + 1 else (T s u).toNat) (h := fun s' u' => if updT T s u v s' u' < 0 then n * n + 1 else (updT T s u v s' u').toNat) hs hu fun s' u' _ _ hne => by
    show (if updT T s u v s' u' < 0 then n * n + 1 else (updT T s u v s' u').toNat) = if T s' u' < 0 then n * n + 1 else (T s' u').toNat
    rw [updT_other T v hne]
  have e2 : mesT n (updT T s u v) + (if T s u < 0 then n * n + 1 else (T s u).toNat) = mesT n T + (if updT T s u v s u < 0 then n * n + 1 else (updT T s u v s u).toNat) := e2
  rw [updT_self, if_neg (show ¬v < 0 by omega)] at e2
  have hcn : cntT n T ≤ cntT n (updT T s u v) ∧ (T s u < 0 → cntT n T + 1 ≤ cntT n (updT T s u v)) := by
    by_cases h0 : T s u < 0
    · rw [if_pos h0] at e1; omega
    · rw [if_neg h0] at e1; omega
  refine ⟨⟨fun s' u' hs' hu' h => ?_, fun s' u' hs' hu' hbad => ?_, fun s' u' hs' hu' => ?_⟩, ?_⟩
  · by_cases he : s' = s ∧ u' = u
    · obtain ⟨rfl, rfl⟩ := he
      obtain ⟨w, w1, w2, w3⟩ := g.sound _ _ hx hy hk
      refine ⟨a :: w, by rw [updT_self, List.length_cons]; omega, fun b hb => ?_, w3⟩
      rcases List.mem_cons.1 hb with rfl | hb
      · exact ha
      · exact w2 b hb
    · rw [updT_other T v he] at h ⊢
      exact g.sound s' u' hs' hu' h
  · by_cases he : s' = s ∧ u' = u
    · obtain ⟨rfl, rfl⟩ := he
      have := g.zero _ _ hs' hu' hbad
      omega
    · rw [updT_other T v he]
      exact g.zero s' u' hs' hu' hbad
  · by_cases he : s' = s ∧ u' = u
    · obtain ⟨rfl, rfl⟩ := he
      rw [updT_self]
      rcases hc with hc | hc
      · have := hcn.2 hc; omega
      · have := g.bnd s' u' hs' hu'
        omega
    · rw [updT_other T v he]
      have := g.bnd s' u' hs' hu'
      omega
  · by_cases h0 : T s u < 0
    · rw [if_pos h0] at e2; omega
    · rw [if_neg h0] at e2
      have : v < T s u := by omega
      omega
/-- Of a table that is closed: it tells the least number of acts. -/
theorem GoodL.comp (i : InL n m x y) (g : GoodL n m x y bad T) (hc : ∀ s u a, s < n → u < n → a < m → closeL x y T s u a) : ∀ (w : List Nat) (s u : Nat), s < n → u < n → (∀ a ∈ w, a < m) → bad (w.foldl x s) (w.foldl y u) = true → 0 ≤ T s u ∧ T s u ≤ (w.length : Int)
  | [], s, u, hs, hu, _, hb => by
    have := g.zero s u hs hu hb
    simp only [List.length_nil]
    omega
  | a :: w, s, u, hs, hu, hw, hb => by
    have ha := hw a (List.mem_cons_self ..)
    have ih := g.comp i hc w (x s a) (y u a) (i.x s a hs ha) (i.y u a hu ha) (fun b hb => hw b (List.mem_cons_of_mem _ hb)) hb
    have := hc s u a hs hu ha ih.1
    rw [List.length_cons]
    omega
theorem exists_least {p : Nat → Prop} (h : ∃ k, p k) : ∃ k, p k ∧ ∀ j, j < k → ¬p j := by
  obtain ⟨k, hk⟩ := h
  have key : ∀ n k, k ≤ n → p k → ∃ k, p k ∧ ∀ j, j < k → ¬p j := by
    intro n
    induction n with
    | zero => intro k hk hp; exact ⟨k, hp, fun j hj => by omega⟩
    | succ n ih =>
      intro k hk hp
      by_cases h : ∃ j, j < k ∧ p j
      · obtain ⟨j, hj, hpj⟩ := h
        exact ih j (by omega) hpj
      · exact ⟨k, hp, fun j hj hpj => h ⟨j, hj, hpj⟩⟩
  exact key k k (Nat.le_refl _) hk
def wordK (m : Nat) (x y : Nat → Nat → Nat) (bad : Nat → Nat → Bool) (s u k : Nat) : Prop := ∃ w : List Nat, w.length = k ∧ (∀ a ∈ w, a < m) ∧ bad (w.foldl x s) (w.foldl y u) = true
open Classical in
noncomputable def leftD (m : Nat) (x y : Nat → Nat → Nat) (bad : Nat → Nat → Bool) (s u : Nat) : Int :=
  if h : ∃ k, wordK m x y bad s u k then ((Classical.choose (exists_least h) : Nat) : Int) else -1
theorem GoodL.is (i : InL n m x y) (g : GoodL n m x y bad T) (low : ∀ s u, s < n → u < n → -1 ≤ T s u) (hc : ∀ s u a, s < n → u < n → a < m → closeL x y T s u a) {s u : Nat} (hs : s < n) (hu : u < n) : T s u = leftD m x y bad s u := by
  unfold leftD
  by_cases h : ∃ k, wordK m x y bad s u k
  · rw [dif_pos h]
    obtain ⟨⟨w, w1, w2, w3⟩, hmin⟩ := Classical.choose_spec (exists_least h)
    have h1 := g.comp i hc w s u hs hu w2 w3
    obtain ⟨v, v1, v2, v3⟩ := g.sound s u hs hu h1.1
    have h2 : ¬v.length < Classical.choose (exists_least h) := fun hlt => hmin _ hlt ⟨v, rfl, v2, v3⟩
    omega
  · rw [dif_neg h]
    have h0 : ¬0 ≤ T s u := fun h0 => by
      obtain ⟨v, v1, v2, v3⟩ := g.sound s u hs hu h0
      exact h ⟨_, v, rfl, v2, v3⟩
    have := low s u hs hu
    omega

/-! ### The first acts -/

def stepG (m : Nat) (x y : Nat → Nat → Nat) (T : Nat → Nat → Int) (s u a : Nat) : Prop := a < m ∧ T (x s a) (y u a) = T s u - 1 ∧ ∀ b, b < a → T (x s b) (y u b) ≠ T s u - 1
def greedy (m : Nat) (x y : Nat → Nat → Nat) (T : Nat → Nat → Int) : Nat → Nat → List Nat → Prop
  | _, _, [] => True
  | s, u, a :: w => stepG m x y T s u a ∧ greedy m x y T (x s a) (y u a) w
theorem greedy_snoc : ∀ (w : List Nat) {s u a : Nat}, greedy m x y T s u w → stepG m x y T (w.foldl x s) (w.foldl y u) a → greedy m x y T s u (w ++ [a])
  | [], _, _, _, _, h => ⟨h, trivial⟩
  | _ :: w, _, _, _, h, k => ⟨h.1, greedy_snoc w h.2 k⟩
theorem greedy_end : ∀ (w : List Nat) {s u : Nat}, greedy m x y T s u w → T (w.foldl x s) (w.foldl y u) = T s u - (w.length : Int)
  | [], _, _, _ => by simp
  | a :: w, s, u, h => by
    have := greedy_end w h.2
    have h2 := h.1.2.1
    rw [List.length_cons]
    show T (w.foldl x (x s a)) (w.foldl y (y u a)) = _
    omega
theorem greedy_in : ∀ (w : List Nat) {s u : Nat}, greedy m x y T s u w → ∀ a ∈ w, a < m
  | [], _, _, _, a, ha => by cases ha
  | b :: w, s, u, h, a, ha => by
    rcases List.mem_cons.1 ha with rfl | ha
    · exact h.1.1
    · exact greedy_in w h.2 a ha
theorem GoodL.more (i : InL n m x y) (g : GoodL n m x y bad T) (hc : ∀ s u a, s < n → u < n → a < m → closeL x y T s u a) {s u : Nat} (hs : s < n) (hu : u < n) (h : 0 < T s u) : ∃ a, a < m ∧ T (x s a) (y u a) = T s u - 1 := by
  obtain ⟨w, w1, w2, w3⟩ := g.sound s u hs hu (by omega)
  match w, w1, w2, w3 with
  | [], w1, _, _ => simp only [List.length_nil] at w1; omega
  | a :: w, w1, w2, w3 =>
    have ha := w2 a (List.mem_cons_self ..)
    have h1 := g.comp i hc w (x s a) (y u a) (i.x s a hs ha) (i.y u a hu ha) (fun b hb => w2 b (List.mem_cons_of_mem _ hb)) w3
    have h2 := hc s u a hs hu ha h1.1
    rw [List.length_cons] at w1
    exact ⟨a, ha, by omega⟩
/-- No word that tells is ahead of them: it is longer, they themselves, or behind where it leaves them. -/
theorem GoodL.first (i : InL n m x y) (g : GoodL n m x y bad T) (hc : ∀ s u a, s < n → u < n → a < m → closeL x y T s u a) : ∀ (w v : List Nat) (s u : Nat), s < n → u < n → greedy m x y T s u w → T s u = (w.length : Int) → (∀ a ∈ v, a < m) → bad (v.foldl x s) (v.foldl y u) = true →
    w.length < v.length ∨ v = w ∨ (v.length = w.length ∧ ∃ k, k < w.length ∧ (∀ q, q < k → w.getD q 0 = v.getD q 0) ∧ w.getD k 0 < v.getD k 0)
  | [], [], _, _, _, _, _, _, _, _ => .inr (.inl rfl)
  | [], _ :: _, _, _, _, _, _, _, _, _ => .inl (by simp)
  | a :: w, [], s, u, hs, hu, _, ht, _, hb => by
    have := g.zero s u hs hu hb
    rw [List.length_cons] at ht
    omega
  | a :: w, b :: v, s, u, hs, hu, hg, ht, hv, hb => by
    have hbm := hv b (List.mem_cons_self ..)
    have h1 := g.comp i hc v (x s b) (y u b) (i.x s b hs hbm) (i.y u b hu hbm) (fun c hc => hv c (List.mem_cons_of_mem _ hc)) hb
    have h2 := hc s u b hs hu hbm h1.1
    rw [List.length_cons] at ht
    rcases Nat.lt_or_ge w.length v.length with hlt | hge
    · exact .inl (by simp; exact hlt)
    · have hlen : v.length = w.length := by omega
      have hT : T (x s b) (y u b) = T s u - 1 := by omega
      have hnb : ¬b < a := fun hba => hg.1.2.2 b hba hT
      by_cases hab : b = a
      · subst hab
        rcases g.first i hc w v (x s b) (y u b) (i.x s b hs hbm) (i.y u b hu hbm) hg.2 (by omega) (fun c hc => hv c (List.mem_cons_of_mem _ hc)) hb with h | h | ⟨h, k, k1, k2, k3⟩
        · omega
        · exact .inr (.inl (by rw [h]))
        · refine .inr (.inr ⟨by simp [h], k + 1, by simp; exact k1, fun q hq => ?_, k3⟩)
          cases q with
          | zero => rfl
          | succ q => exact k2 q (by omega)
      · exact .inr (.inr ⟨by simp [hlen], 0, by simp, fun q hq => by omega, show a < b by omega⟩)
end

/-! ### The machine's -/

section
variable {P : Int} {A : List Int} {N S : List (List Int)} {f : List Int} {part : Int}
def besN (N : List (List Int)) (A f : List Int) (part : Int) (u a : Nat) : Nat := if actOn A f part (a : Int) = true then nx N u a else u
def badN (S : List (List Int)) (part : Int) (s u : Nat) : Bool := decide ((S.getD s []).getD part.toNat 0 ≠ (S.getD u []).getD part.toNat 0)
theorem GoodM.inL (g : GoodM P A N S) : InL N.length A.length (nx N) (besN N A f part) :=
  ⟨fun s a hs ha => (g.nx_lt hs ha).2.2, fun s a hs ha => by unfold besN; split; exact (g.nx_lt hs ha).2.2; exact hs⟩
def intW (w : List Nat) : List Int := w.map fun a : Nat => ((a : Nat) : Int)
theorem fold_snoc (x : Nat → Nat → Nat) (w : List Nat) (a s : Nat) : (w ++ [a]).foldl x s = x (w.foldl x s) a := by rw [List.foldl_append]; rfl
theorem fold_in {n m : Nat} {x : Nat → Nat → Nat} (h : ∀ s a, s < n → a < m → x s a < n) : ∀ (w : List Nat) (s : Nat), s < n → (∀ a ∈ w, a < m) → w.foldl x s < n
  | [], _, hs, _ => hs
  | a :: w, s, hs, hw => fold_in h w (x s a) (h s a hs (hw a (List.mem_cons_self ..))) fun b hb => hw b (List.mem_cons_of_mem _ hb)
theorem snoc_ind {p : List Nat → Prop} (h0 : p []) (h1 : ∀ w a, p w → p (w ++ [a])) (w : List Nat) : p w := by
  have key : ∀ k (w : List Nat), w.length = k → p w := by
    intro k
    induction k with
    | zero => intro w hw; rw [List.eq_nil_of_length_eq_zero hw]; exact h0
    | succ k ih =>
      intro w hw
      have hne : w ≠ [] := fun e => by rw [e] at hw; cases hw
      rw [← List.dropLast_concat_getLast hne]
      exact h1 _ _ (ih _ (by rw [List.length_dropLast]; omega))
  exact key w.length w rfl
theorem run_word (g : GoodM P A N S) : ∀ w : List Nat, (∀ a ∈ w, a < A.length) →
    (runN N 0 (intW w) (intW w).length, runN N 0 (purgeL A f part (intW w)) (purgeL A f part (intW w)).length) = (((w.foldl (nx N) 0 : Nat) : Int), ((w.foldl (besN N A f part) 0 : Nat) : Int)) := fun w => by
  refine snoc_ind (p := fun w => (∀ a ∈ w, a < A.length) → (runN N 0 (intW w) (intW w).length, runN N 0 (purgeL A f part (intW w)) (purgeL A f part (intW w)).length) = (((w.foldl (nx N) 0 : Nat) : Int), ((w.foldl (besN N A f part) 0 : Nat) : Int))) (fun _ => rfl) (fun w a ih hw => ?_) w
  have hw1 : ∀ b ∈ w, b < A.length := fun b hb => hw b (List.mem_append_left _ hb)
  have ha : a < A.length := hw a (List.mem_append_right _ (List.mem_singleton.2 rfl))
  have e : intW (w ++ [a]) = intW w ++ [(a : Int)] := by simp [intW]
  have i := g.inL (f := f) (part := part)
  have h1 := fold_in i.x w 0 g.some hw1
  have h2 := fold_in i.y w 0 g.some hw1
  rw [e, run_pair N A f part _ (show (0 : Int) ≤ (a : Int) by omega), ih hw1, fold_snoc, fold_snoc]
  unfold nxtP besN nx
  rw [Int.toNat_natCast, Int.toNat_natCast, Int.toNat_natCast]
  have n1 := g.nx_lt h1 ha
  have n2 := g.nx_lt h2 ha
  unfold nx at n1 n2 h1 h2
  refine Prod.ext ?_ ?_
  · show (N.getD (w.foldl (nx N) 0) []).getD a 0 = _
    exact (Int.toNat_of_nonneg n1.1).symm
  · show (if actOn A f part (a : Int) = true then (N.getD (w.foldl (besN N A f part) 0) []).getD a 0 else ((w.foldl (besN N A f part) 0 : Nat) : Int)) = _
    split
    · exact (Int.toNat_of_nonneg n2.1).symm
    · rfl
theorem word_nat {w : List Int} {h : Int} (hw : inAll w h) : intW (w.map Int.toNat) = w := by
  unfold intW
  rw [List.map_map]
  have : ∀ a ∈ w, ((fun a : Nat => (a : Int)) ∘ Int.toNat) a = a := fun a ha => by
    have := (inAll_mem.1 hw a ha).1
    show ((a.toNat : Nat) : Int) = a
    omega
  rw [List.map_congr_left this, List.map_id']
theorem intW_in {w : List Nat} {m : Nat} (h : ∀ a ∈ w, a < m) : inAll (intW w) ((m : Int) - 1) := inAll_mem.2 fun x hx => by
  obtain ⟨a, ha, rfl⟩ := List.mem_map.1 hx
  have := h a ha
  show 0 ≤ (a : Int) ∧ (a : Int) ≤ (m : Int) - 1
  omega
theorem intW_get (w : List Nat) (k : Nat) : (intW w).getD k 0 = ((w.getD k 0 : Nat) : Int) := by
  unfold intW
  simp only [List.getD, List.getElem?_map]
  cases w[k]? <;> rfl
theorem intW_len (w : List Nat) : (intW w).length = w.length := by simp [intW]
/-- Where the table is closed: it tells whether a part is quiet, and the first acts. -/
theorem left_quiet (gc : GoodC P A N S f part) {T : Nat → Nat → Int} (g : GoodL N.length A.length (nx N) (besN N A f part) (badN S part) T)
    (hc : ∀ s u a, s < N.length → u < N.length → a < A.length → closeL (nx N) (besN N A f part) T s u a) : quietB N A f part S = true ↔ T 0 0 < 0 := by
  have hN := gc.m.some
  have i := gc.m.inL (f := f) (part := part)
  constructor
  · intro hq
    apply Int.lt_of_not_ge
    intro h0
    obtain ⟨w, w1, w2, w3⟩ := g.sound 0 0 hN hN h0
    have h := gc.qu_quiet hq (intW_in w2)
    have e := run_word gc.m (f := f) (part := part) w w2
    injection e with e1 e2
    rw [e1, e2, Int.toNat_natCast, Int.toNat_natCast] at h
    exact (of_decide_eq_true w3) h
  · intro h0
    cases hq : quietB N A f part S with
    | true => rfl
    | false =>
      obtain ⟨L, _, hin, _, hbad, _⟩ := gc.loud hq
      have hw : ∀ a ∈ L.map Int.toNat, a < A.length := fun a ha => by
        obtain ⟨b, hb, rfl⟩ := List.mem_map.1 ha
        have := inAll_mem.1 hin b hb
        omega
      have e := run_word gc.m (f := f) (part := part) _ hw
      rw [word_nat hin] at e
      injection e with e1 e2
      rw [e1, e2, Int.toNat_natCast, Int.toNat_natCast] at hbad
      have := (g.comp i hc _ 0 0 hN hN hw (decide_eq_true hbad)).1
      omega
theorem left_word (gc : GoodC P A N S f part) {T : Nat → Nat → Int} (g : GoodL N.length A.length (nx N) (besN N A f part) (badN S part) T)
    (hc : ∀ s u a, s < N.length → u < N.length → a < A.length → closeL (nx N) (besN N A f part) T s u a) {w : List Nat} (hg : greedy A.length (nx N) (besN N A f part) T 0 0 w) (ht : T 0 0 = (w.length : Int)) (hq : quietB N A f part S = false) : quPath N A f part (quEnd N A f part S) = intW w := by
  have hN := gc.m.some
  have i := gc.m.inL (f := f) (part := part)
  obtain ⟨L, hL, hin, _, hbad, hah⟩ := gc.loud hq
  rw [← hL]
  have hw : ∀ a ∈ L.map Int.toNat, a < A.length := fun a ha => by
    obtain ⟨b, hb, rfl⟩ := List.mem_map.1 ha
    have := inAll_mem.1 hin b hb
    omega
  have e := run_word gc.m (f := f) (part := part) _ hw
  rw [word_nat hin] at e
  injection e with e1 e2
  rw [e1, e2, Int.toNat_natCast, Int.toNat_natCast] at hbad
  -- the greedy word itself tells
  have hwin := greedy_in w hg
  have hself : ¬slt (intW w) L := fun hs => by
    have h := hah (intW w) (intW_in hwin) hs
    have e := run_word gc.m (f := f) (part := part) w hwin
    injection e with e1 e2
    rw [e1, e2, Int.toNat_natCast, Int.toNat_natCast] at h
    have he := greedy_end w hg
    have x1 := fold_in i.x w 0 hN hwin
    have x2 := fold_in i.y w 0 hN hwin
    obtain ⟨v, v1, _, v3⟩ := g.sound _ _ x1 x2 (by omega)
    have hv : v = [] := List.eq_nil_of_length_eq_zero (by omega)
    subst hv
    exact (of_decide_eq_true v3) h
  have hlen : L.length = (L.map Int.toNat).length := by simp
  have hget : ∀ q, q < L.length → ((((L.map Int.toNat).getD q 0 : Nat)) : Int) = L.getD q 0 := fun q hq => by
    rw [← intW_get, word_nat hin]
  rcases g.first i hc w (L.map Int.toNat) 0 0 hN hN hg ht hw (decide_eq_true hbad) with h | h | ⟨h, k, k1, k2, k3⟩
  · exact absurd (.inl (by rw [intW_len]; omega)) hself
  · rw [← h, word_nat hin]
  · exact absurd (.inr ⟨by rw [intW_len]; omega, k, by rw [intW_len]; omega, fun q hq => by rw [intW_get, k2 q hq, hget q (by omega)], by rw [intW_get, ← hget k (by omega)]; omega⟩) hself
end

end Go.Proofs.YtndoigkmdcgjfaaDoor
