/-
  TABLES OF WHO IS ALIKE: their classes, numbered as they come; who is come to through whom. The plain law.
-/
import Derived.Test.YtkdihpajgmiolaaDoorQwPa
namespace Go.Proofs.YtkdihpajgmiolaaDoor
open Go Go.Qw
set_option maxRecDepth 10000
set_option linter.unusedSimpArgs false
set_option linter.unusedVariables false
set_option linter.unusedSectionVars false

/-! ### Tables of who is alike -/

/-- The class of i out of those ahead: the number of the first that is alike, or -1. -/
def kN (g : Nat → Nat → Bool) (out : List Int) (i : Nat) : Nat → Int
  | 0 => -1
  | j + 1 => if kN g out i j < 0 ∧ g i j = true then out.getD j 0 else kN g out i j
def namedR (g : Nat → Nat → Bool) : Nat → List Int
  | 0 => []
  | i + 1 => namedR g i ++ [if kN g (namedR g i) i i < 0 then nextP (namedR g i) i else kN g (namedR g i) i i]
theorem namedR_len (g : Nat → Nat → Bool) : ∀ i, (namedR g i).length = i
  | 0 => rfl
  | i + 1 => by rw [namedR, List.length_append, namedR_len g i]; rfl
theorem nextP_app {p : List Int} {x : Int} : ∀ {i : Nat}, i ≤ p.length → nextP (p ++ [x]) i = nextP p i
  | 0, _ => rfl
  | i + 1, h => by rw [nextP, nextP, nextP_app (i := i) (by omega), getD_app_l (by omega)]
theorem okP_app {p : List Int} {x : Int} (hp : okP p p.length) (hx : 0 ≤ x ∧ x ≤ nextP p p.length) : okP (p ++ [x]) (p.length + 1) := fun j hj => by
  by_cases h : j < p.length
  · rw [getD_app_l h, nextP_app (by omega)]; exact hp j h
  · have : j = p.length := by omega
    subst this
    rw [getD_app_n, nextP_app (Nat.le_refl _)]; exact hx
theorem okP_lt {p : List Int} {n : Nat} (hp : okP p n) {a i : Nat} (ha : a < i) (hi : i ≤ n) : p.getD a 0 < nextP p i := by
  have h1 := hp a (by omega)
  have h2 := nextP_mono p (show a + 1 ≤ i by omega)
  by_cases h : p.getD a 0 = nextP p a
  · have := nextP_yes h; omega
  · have := nextP_le p a; omega
theorem kN_is {g : Nat → Nat → Bool} {out : List Int} {i : Nat} (ho : ∀ a, a < i → 0 ≤ out.getD a 0) : ∀ {j : Nat}, j ≤ i → (kN g out i j < 0 ∧ ∀ a, a < j → g i a = false) ∨ (0 ≤ kN g out i j ∧ ∃ a, a < j ∧ g i a = true ∧ kN g out i j = out.getD a 0)
  | 0, _ => .inl ⟨by rw [kN]; omega, fun a ha => by omega⟩
  | j + 1, hj => by
    rw [kN]
    rcases kN_is (g := g) ho (show j ≤ i by omega) with ⟨h1, h2⟩ | ⟨h1, a, h2, h3, h4⟩
    · by_cases hg : g i j = true
      · rw [if_pos ⟨h1, hg⟩]
        exact .inr ⟨ho j (by omega), j, by omega, hg, rfl⟩
      · rw [if_neg (fun h => hg h.2)]
        refine .inl ⟨h1, fun a ha => ?_⟩
        by_cases he : a = j
        · subst he; exact Bool.eq_false_iff.2 hg
        · exact h2 a (by omega)
    · rw [if_neg (fun h => by omega)]
      exact .inr ⟨h1, a, by omega, h3, h4⟩
theorem namedR_ok (g : Nat → Nat → Bool) : ∀ i, okP (namedR g i) i
  | 0 => fun j hj => by omega
  | i + 1 => by
    have h := namedR_ok g i
    have hl := namedR_len g i
    have hn := nextP_in (namedR g i) i
    have k := okP_app (p := namedR g i) (x := if kN g (namedR g i) i i < 0 then nextP (namedR g i) i else kN g (namedR g i) i i) (by rw [hl]; exact h) (by
      rw [hl]
      rcases kN_is (g := g) (i := i) (fun a ha => (h a ha).1) (Nat.le_refl i) with ⟨h1, _⟩ | ⟨h1, a, h2, _, h4⟩
      · rw [if_pos h1]; omega
      · rw [if_neg (by omega), h4]
        have := okP_lt h h2 (Nat.le_refl _)
        omega)
    rw [hl] at k
    exact k
theorem namedR_next (g : Nat → Nat → Bool) (i : Nat) : nextP (namedR g (i + 1)) (i + 1) = if kN g (namedR g i) i i < 0 then nextP (namedR g i) i + 1 else nextP (namedR g i) i := by
  have hl := namedR_len g i
  rw [nextP, namedR, nextP_app (by omega)]
  have e : ∀ x : Int, (namedR g i ++ [x]).getD i 0 = x := fun x => by have := getD_app_n (xs := namedR g i) (x := x) (d := 0); rw [hl] at this; exact this
  rw [e]
  rcases kN_is (g := g) (i := i) (fun a ha => (namedR_ok g i a ha).1) (Nat.le_refl i) with ⟨h1, _⟩ | ⟨h1, a, h2, _, h4⟩
  · rw [if_pos h1, if_pos rfl, if_pos h1]
  · rw [if_neg (show ¬kN g (namedR g i) i i < 0 by omega), if_neg (show ¬kN g (namedR g i) i i < 0 by omega), if_neg]
    have := okP_lt (namedR_ok g i) h2 (Nat.le_refl _)
    omega
theorem namedR_get (g : Nat → Nat → Bool) {a : Nat} : ∀ {i : Nat}, a < i → (namedR g i).getD a 0 = (namedR g (a + 1)).getD a 0
  | i + 1, h => by
    by_cases he : a = i
    · rw [he]
    · rw [namedR, getD_app_l (by rw [namedR_len]; omega), namedR_get g (show a < i by omega)]
/-- Whoever is alike is so both ways, and to whom those are that are so. -/
structure EqB (n : Nat) (g : Nat → Nat → Bool) : Prop where
  self : ∀ i, i < n → g i i = true
  symm : ∀ i j, i < n → j < n → g i j = true → g j i = true
  trans : ∀ i j k, i < n → j < n → k < n → g i j = true → g j k = true → g i k = true
theorem named_eqv {n : Nat} {g : Nat → Nat → Bool} (hg : EqB n g) : ∀ {i : Nat}, i ≤ n → ∀ a b, a < i → b < i → ((namedR g i).getD a 0 = (namedR g i).getD b 0 ↔ g a b = true)
  | 0, _, a, _, ha, _ => by omega
  | i + 1, hi, a, b, ha, hb => by
    have ih := fun a b ha hb => named_eqv hg (i := i) (by omega) a b ha hb
    have hl := namedR_len g i
    have hok := namedR_ok g i
    -- one of them is the last one
    have key : ∀ a, a < i → ((namedR g (i + 1)).getD a 0 = (namedR g (i + 1)).getD i 0 ↔ g a i = true) := fun a ha => by
      rw [namedR, getD_app_l (by omega)]
      have e : ∀ x : Int, (namedR g i ++ [x]).getD i 0 = x := fun x => by have := getD_app_n (xs := namedR g i) (x := x) (d := 0); rw [hl] at this; exact this
      rw [e]
      rcases kN_is (g := g) (i := i) (fun a ha => (hok a ha).1) (Nat.le_refl i) with ⟨h1, h2⟩ | ⟨h1, c, h2, h3, h4⟩
      · rw [if_pos h1]
        have := okP_lt hok ha (Nat.le_refl _)
        constructor
        · intro he; omega
        · intro hg2
          have := hg.symm a i (by omega) (by omega) hg2
          rw [h2 a ha] at this
          cases this
      · rw [if_neg (by omega), h4, ih a c ha h2]
        constructor
        · intro hac
          exact hg.trans a c i (by omega) (by omega) (by omega) hac (hg.symm i c (by omega) (by omega) h3)
        · intro hai
          exact hg.trans a i c (by omega) (by omega) (by omega) hai h3
    rcases Nat.lt_or_ge a i with h1 | h1 <;> rcases Nat.lt_or_ge b i with h2 | h2
    · rw [namedR, getD_app_l (by omega), getD_app_l (by omega)]; exact ih a b h1 h2
    · rw [show b = i by omega]; exact key a h1
    · rw [show a = i by omega]
      constructor
      · intro he
        exact hg.symm b i (by omega) (by omega) ((key b h2).1 he.symm)
      · intro he
        exact ((key b h2).2 (hg.symm i b (by omega) (by omega) he)).symm
    · rw [show a = i by omega, show b = i by omega]
      exact ⟨fun _ => hg.self i (by omega), fun _ => rfl⟩
theorem named_parts {n : Nat} {g : Nat → Nat → Bool} (hg : EqB n g) (hn : n ≤ 12) : Parts (namedR g n) n fun i j => g i j = true :=
  ⟨partE_ok (by rw [namedR_len]; exact hn) (by rw [namedR_len]; exact namedR_ok g n), namedR_len g n, fun i j hi hj => named_eqv hg (Nat.le_refl _) i j hi hj⟩

/-- A table. -/
def tabL (n : Nat) (g : Nat → Nat → Bool) (i : Nat) : List (List Bool) := (List.range i).map fun a => (List.range n).map fun b => g a b
theorem tabL_len (n : Nat) (g : Nat → Nat → Bool) (i : Nat) : (tabL n g i).length = i := by simp [tabL]
def rowT (g : Nat → Nat → Bool) (i j : Nat) : List Bool := (List.range j).map fun b => g i b
theorem rowT_len (g : Nat → Nat → Bool) (i j : Nat) : (rowT g i j).length = j := by simp [rowT]
theorem rowT_step (g : Nat → Nat → Bool) (i j : Nat) : rowT g i j ++ [g i j] = rowT g i (j + 1) := by simp [rowT, List.range_succ]
theorem tabL_step (n : Nat) (g : Nat → Nat → Bool) (i : Nat) : tabL n g i ++ [rowT g i n] = tabL n g (i + 1) := by simp [tabL, rowT, List.range_succ]
theorem tabL_get {n : Nat} {g : Nat → Nat → Bool} {i m : Nat} (h : i < m) : (tabL n g m).getD i [] = rowT g i n := by simp [tabL, rowT, List.getD, h]
theorem rowT_get {g : Nat → Nat → Bool} {i j m : Nat} (h : j < m) : (rowT g i m).getD j false = g i j := by simp [rowT, List.getD, h]
theorem tabL_at {n : Nat} {g : Nat → Nat → Bool} {i j m : Nat} (h : i < m) (hj : j < n) : ((tabL n g m).getD i []).getD j false = g i j := by rw [tabL_get h, rowT_get hj]
theorem tabL_row {n : Nat} {g : Nat → Nat → Bool} {i m : Nat} (h : i < m) : ((tabL n g m).getD i []).length = n := by rw [tabL_get h, rowT_len]

/-! ### Who is come to through whom (Warshall) -/

def wB (g : Nat → Nat → Bool) : Nat → Nat → Nat → Bool
  | 0, i, j => g i j
  | k + 1, i, j => wB g k i j || wB g k i k && wB g k k j
/-- The table while it is turned: all ahead of (i, j) is of the next round. -/
def wM (g : Nat → Nat → Bool) (k i j : Nat) (a b : Nat) : Bool := if a < i ∨ (a = i ∧ b < j) then wB g (k + 1) a b else wB g k a b
theorem wB_mono (g : Nat → Nat → Bool) (k i j : Nat) (h : wB g k i j = true) : wB g (k + 1) i j = true := by rw [wB, h]; rfl
theorem wB_le (g : Nat → Nat → Bool) (i j : Nat) (h : g i j = true) : ∀ k, wB g k i j = true
  | 0 => h
  | k + 1 => wB_mono g k i j (wB_le g i j h k)
theorem wB_col (g : Nat → Nat → Bool) (k i : Nat) : wB g (k + 1) i k = wB g k i k := by rw [wB]; cases wB g k i k <;> cases wB g k k k <;> rfl
theorem wB_row (g : Nat → Nat → Bool) (k j : Nat) : wB g (k + 1) k j = wB g k k j := by rw [wB]; cases wB g k k j <;> cases wB g k k k <;> rfl
theorem wM_new (g : Nat → Nat → Bool) (k i j : Nat) : (wM g k i j i j || wM g k i j i k && wM g k i j k j) = wB g (k + 1) i j := by
  have h1 : wM g k i j i j = wB g k i j := by unfold wM; rw [if_neg (by omega)]
  have h2 : wM g k i j i k = wB g k i k := by unfold wM; split; exact wB_col g k i; rfl
  have h3 : wM g k i j k j = wB g k k j := by unfold wM; split; exact wB_row g k j; rfl
  rw [h1, h2, h3, wB]
theorem wB_through (g : Nat → Nat → Bool) : ∀ k c, c < k → ∀ a b, wB g k a c = true → wB g k c b = true → wB g k a b = true
  | 0, c, hc, _, _, _, _ => by omega
  | k + 1, c, hc, a, b, h1, h2 => by
    have ih := fun c hc a b h1 h2 => wB_through g k c hc a b h1 h2
    by_cases he : c = k
    · subst he
      rw [wB_col] at h1
      rw [wB_row] at h2
      rw [wB, h1, h2]; simp
    · have hlt : c < k := by omega
      rw [wB, Bool.or_eq_true, Bool.and_eq_true] at h1 h2
      rw [wB, Bool.or_eq_true, Bool.and_eq_true]
      rcases h1 with h1 | ⟨h1, h1'⟩ <;> rcases h2 with h2 | ⟨h2, h2'⟩
      · exact .inl (ih c hlt a b h1 h2)
      · exact .inr ⟨ih c hlt a k h1 h2, h2'⟩
      · exact .inr ⟨h1, ih c hlt k b h1' h2⟩
      · exact .inr ⟨h1, h2'⟩
theorem wB_symm {n : Nat} {g : Nat → Nat → Bool} (hs : ∀ i j, i < n → j < n → g i j = true → g j i = true) : ∀ k, k ≤ n → ∀ i j, i < n → j < n → wB g k i j = true → wB g k j i = true
  | 0, _, i, j, hi, hj, h => hs i j hi hj h
  | k + 1, hk, i, j, hi, hj, h => by
    have ih := wB_symm hs k (by omega)
    rw [wB, Bool.or_eq_true, Bool.and_eq_true] at h ⊢
    rcases h with h | ⟨h, h'⟩
    · exact .inl (ih i j hi hj h)
    · exact .inr ⟨ih k j (by omega) hj h', ih i k hi (by omega) h⟩
theorem wB_eqb {n : Nat} {g : Nat → Nat → Bool} (hr : ∀ i, i < n → g i i = true) (hs : ∀ i j, i < n → j < n → g i j = true → g j i = true) : EqB n (wB g n) :=
  ⟨fun i hi => wB_le g i i (hr i hi) n, wB_symm hs n (Nat.le_refl _), fun i j k _ hj _ h1 h2 => wB_through g n j hj i k h1 h2⟩
/-- Nothing that keeps alike in one is split by it. -/
theorem wB_sound {n : Nat} {g : Nat → Nat → Bool} {S : Nat → Nat → Prop} (ht : ∀ i j k, i < n → j < n → k < n → S i j → S j k → S i k) (hg : ∀ i j, i < n → j < n → g i j = true → S i j) : ∀ k, k ≤ n → ∀ i j, i < n → j < n → wB g k i j = true → S i j
  | 0, _, i, j, hi, hj, h => hg i j hi hj h
  | k + 1, hk, i, j, hi, hj, h => by
    have ih := wB_sound ht hg k (by omega)
    rw [wB, Bool.or_eq_true, Bool.and_eq_true] at h
    rcases h with h | ⟨h, h'⟩
    · exact ih i j hi hj h
    · exact ht i k j hi (by omega) hj (ih i k hi (by omega) h) (ih k j (by omega) hj h')

/-! ### What the document takes together -/

def ofG (l : List Int) (i j : Nat) : Bool := decide (l.getD i 0 = l.getD j 0)
theorem ofG_eqb (l : List Int) (n : Nat) : EqB n (ofG l) :=
  ⟨fun i _ => decide_eq_true rfl, fun i j _ _ h => decide_eq_true (of_decide_eq_true h).symm, fun i j k _ _ _ h h' => decide_eq_true ((of_decide_eq_true h).trans (of_decide_eq_true h'))⟩
theorem ofG_num {l : List Int} (h : l.length ≤ 12) : namedR (ofG l) l.length = ofL l :=
  (named_parts (ofG_eqb l _) h).uniq (ofL_parts h) fun i j _ _ => by unfold ofG; rw [decide_eq_true_eq]
def meG (p q : List Int) (join : Bool) (i j : Nat) : Bool := decide (p.getD i 0 = p.getD j 0) && decide (q.getD i 0 = q.getD j 0) || join && (decide (p.getD i 0 = p.getD j 0) || decide (q.getD i 0 = q.getD j 0))
theorem meG_self (p q : List Int) (b : Bool) (i : Nat) : meG p q b i i = true := by simp [meG]
theorem meG_symm (p q : List Int) (b : Bool) (i j : Nat) (h : meG p q b i j = true) : meG p q b j i = true := by
  unfold meG at h ⊢
  rw [decide_eq_decide.2 (show p.getD j 0 = p.getD i 0 ↔ p.getD i 0 = p.getD j 0 from eq_comm), decide_eq_decide.2 (show q.getD j 0 = q.getD i 0 ↔ q.getD i 0 = q.getD j 0 from eq_comm)]
  exact h
def meR (p q : List Int) (b : Bool) : List Int := namedR (wB (meG p q b) p.length) p.length
theorem meR_parts {p q : List Int} (b : Bool) (h : p.length ≤ 12) : Parts (meR p q b) p.length fun i j => wB (meG p q b) p.length i j = true :=
  named_parts (wB_eqb (fun i _ => meG_self p q b i) fun i j _ _ => meG_symm p q b i j) h
theorem meet_is {p q : List Int} (h : twoE p q = 0) : meR p q false = meetL p q := by
  obtain ⟨hp, hq, hl, h12⟩ := twoE_ok h
  refine (meR_parts false h12).uniq (meet_parts h) fun i j hi hj => ⟨fun hw => ?_, fun hh => wB_le _ _ _ (by unfold meG; rw [decide_eq_true hh.1, decide_eq_true hh.2]; rfl) _⟩
  exact wB_sound (S := fun i j => p.getD i 0 = p.getD j 0 ∧ q.getD i 0 = q.getD j 0) (n := p.length) (fun i j k _ _ _ h1 h2 => ⟨h1.1.trans h2.1, h1.2.trans h2.2⟩) (fun i j _ _ hg => by simpa [meG] using hg) p.length (Nat.le_refl _) i j hi hj hw
theorem join_is {p q : List Int} (h : twoE p q = 0) : meR p q true = joinL p q := by
  obtain ⟨hp, hq, hl, h12⟩ := twoE_ok h
  have M := meR_parts (p := p) (q := q) true h12
  refine M.uniq (join_parts h) fun i j hi hj => ⟨fun hw => ?_, fun hh => ?_⟩
  · exact wB_sound (S := conn p q) (n := p.length) (fun i j k _ _ _ h1 h2 c hc => (h1 c hc).trans (h2 c hc)) (fun i j hi hj hg c hc => by
      have : relP p q i j := by
        simp only [meG, Bool.true_and, Bool.or_eq_true, Bool.and_eq_true, decide_eq_true_eq] at hg
        rcases hg with h | h | h
        · exact .inl h.1
        · exact .inl h
        · exact .inr h
      exact hc i j hi hj this) p.length (Nat.le_refl _) i j hi hj hw
  · have hc := hh (fun x => ((meR p q true).getD x 0).toNat) fun a b ha hb hr => by
      have : (meR p q true).getD a 0 = (meR p q true).getD b 0 := (M.eqv a b ha hb).2 (wB_le _ _ _ (by
        simp only [meG, Bool.true_and, Bool.or_eq_true, Bool.and_eq_true, decide_eq_true_eq]
        exact hr.elim (fun h => .inr (.inl h)) fun h => .inr (.inr h)) _)
      exact congrArg Int.toNat this
    have ha := (partE_good M.ok).2 i (by rw [M.len]; exact hi)
    have hb := (partE_good M.ok).2 j (by rw [M.len]; exact hj)
    have hc : ((meR p q true).getD i 0).toNat = ((meR p q true).getD j 0).toNat := hc
    exact (M.eqv i j hi hj).1 (by omega)
/-- Finer: the meet is it. -/
theorem finer_is {p q : List Int} (h : twoE p q = 0) : (∀ i, i < p.length → (meR p q false).getD i 0 = p.getD i 0) ↔ finerV p q = true := by
  obtain ⟨hp, hq, hl, h12⟩ := twoE_ok h
  rw [finerV_all h, meet_is h]
  have M := meet_parts h
  constructor
  · intro hm i j hi hj he
    exact ((M.eqv i j hi hj).1 (by rw [hm i hi, hm j hj, he])).2
  · intro hf i hi
    have : meetL p q = p := M.uniq (Parts.own hp) fun i j hi hj => ⟨fun h => h.1, fun h => ⟨h, hf i j hi hj h⟩⟩
    rw [this]

end Go.Proofs.YtkdihpajgmiolaaDoor
