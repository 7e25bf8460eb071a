/-
  WALKS of anon.Lowest and of what it calls: a closure over the heights, slices.Clone, slices.ContainsFunc.
-/
import Derived.Test.YtmeacgkhabnjlaaDoorQwFw
import Derived.Test.YtmeacgkhabnjlaaDoorQwFo
namespace Go.Proofs.YtmeacgkhabnjlaaDoor
open Go Go.Qw
set_option maxRecDepth 10000
set_option linter.unusedSimpArgs false
set_option linter.unusedVariables false
set_option linter.unusedSectionVars false
set_option maxHeartbeats 2000000

/-! ### All heights, in order -/

def vec (n c : Nat) : List Int := (List.range n).map fun i => ((c / 4 ^ (n - 1 - i) % 4 : Nat) : Int)
theorem vec_len (n c : Nat) : (vec n c).length = n := by simp [vec]
theorem vec_get {n c i : Nat} (h : i < n) : (vec n c).getD i 0 = ((c / 4 ^ (n - 1 - i) % 4 : Nat) : Int) := by simp [vec, List.getD, h]
theorem vec_in {n c i : Nat} (h : i < n) : 0 ≤ (vec n c).getD i 0 ∧ (vec n c).getD i 0 ≤ 3 := by
  rw [vec_get h]
  have := Nat.mod_lt (c / 4 ^ (n - 1 - i)) (show 4 > 0 by decide)
  omega
/-- The digits behind place i are all 3 and have been written over. -/
def carV (n c i : Nat) : List Int := (List.range n).map fun k => if k < i then ((c / 4 ^ (n - 1 - k) % 4 : Nat) : Int) else 0
theorem carV_len (n c i : Nat) : (carV n c i).length = n := by simp [carV]
theorem carV_all (n c : Nat) : vec n c = carV n c n := by
  unfold vec carV
  exact List.map_congr_left fun k hk => by rw [if_pos (List.mem_range.1 hk)]
theorem carV_get {n c i k : Nat} (h : k < i) (hn : k < n) : (carV n c i).getD k 0 = (vec n c).getD k 0 := by
  rw [vec_get hn]; simp [carV, List.getD, hn, h]
theorem carV_zero {n c i : Nat} (h : i < n) : (carV n c (i + 1)).set i 0 = carV n c i := by
  unfold carV
  refine List.ext_getElem (by simp) fun k h1 h2 => ?_
  simp only [List.getElem_set, List.getElem_map, List.getElem_range]
  by_cases he : i = k
  · subst he; rw [if_pos rfl, if_neg (by omega)]
  · rw [if_neg he]
    by_cases h3 : k < i
    · rw [if_pos (by omega), if_pos h3]
    · rw [if_neg (by omega), if_neg h3]
def stepOK (n c i : Nat) : Bool := !((List.range n).all fun k => !decide (i < k) || decide (c / 4 ^ (n - 1 - k) % 4 = 3)) || decide (c / 4 ^ (n - 1 - i) % 4 = 3) || (decide (c + 1 < 4 ^ n) && decide ((carV n c (i + 1)).set i (((c / 4 ^ (n - 1 - i) % 4 : Nat) : Int) + 1) = vec n (c + 1)))
theorem step_all : ((List.range 4).all fun n => (List.range (4 ^ n)).all fun c => (List.range n).all fun i => stepOK n c i) = true := by decide +kernel
theorem step_tab {n c i : Nat} (hn : n < 4) (hc : c < 4 ^ n) (hi : i < n) (h : ∀ k, k < n → i < k → c / 4 ^ (n - 1 - k) % 4 = 3) (h3 : ¬c / 4 ^ (n - 1 - i) % 4 = 3) : c + 1 < 4 ^ n ∧ (carV n c (i + 1)).set i (((c / 4 ^ (n - 1 - i) % 4 : Nat) : Int) + 1) = vec n (c + 1) := by
  have h0 := List.all_eq_true.1 (List.all_eq_true.1 (List.all_eq_true.1 step_all n (List.mem_range.2 hn)) c (List.mem_range.2 hc)) i (List.mem_range.2 hi)
  unfold stepOK at h0
  have h1 : ((List.range n).all fun k => !decide (i < k) || decide (c / 4 ^ (n - 1 - k) % 4 = 3)) = true := List.all_eq_true.2 fun k hk => by
    by_cases hik : i < k
    · rw [decide_eq_true (h k (List.mem_range.1 hk) hik), Bool.or_true]
    · rw [decide_eq_false hik]; rfl
  rw [h1, decide_eq_false h3, Bool.not_true, Bool.false_or, Bool.false_or, Bool.and_eq_true, decide_eq_true_eq, decide_eq_true_eq] at h0
  exact h0
theorem last_tab : ∀ n, n < 4 → ∀ c, c < 4 ^ n → (∀ k, k < n → c / 4 ^ (n - 1 - k) % 4 = 3) → c + 1 = 4 ^ n := by decide +kernel
theorem lex_tab : ∀ n, n < 4 → ∀ c, c < 4 ^ n → ∀ d, d < 4 ^ n → (∀ k, k < n → c / 4 ^ (n - 1 - k) % 4 ≤ d / 4 ^ (n - 1 - k) % 4) → c ≤ d := by decide +kernel
theorem less_tab : ∀ n, n < 4 → ∀ c, c < 4 ^ n → ∀ i, i < n → ¬c / 4 ^ (n - 1 - i) % 4 = 0 → 4 ^ (n - 1 - i) ≤ c ∧ ∀ k, k < n → (c - 4 ^ (n - 1 - i)) / 4 ^ (n - 1 - k) % 4 = c / 4 ^ (n - 1 - k) % 4 - if k = i then 1 else 0 := by decide +kernel
theorem code_tab1 : ∀ a, a < 4 → a / 4 ^ 0 % 4 = a := by decide
theorem vec_of {n : Nat} (hn : n ≤ 3) {hs : List Int} (hl : hs.length = n) (h : ∀ k, k < n → 0 ≤ hs.getD k 0 ∧ hs.getD k 0 ≤ 3) : ∃ c, c < 4 ^ n ∧ hs = vec n c := by
  match n, hs, hl, h with
  | 0, [], _, _ => exact ⟨0, by decide, rfl⟩
  | 1, [a], _, h =>
    have ha : 0 ≤ a ∧ a ≤ 3 := h 0 (by decide)
    obtain ⟨x, rfl⟩ : ∃ x : Nat, a = (x : Int) := ⟨a.toNat, by omega⟩
    have hx : x < 4 := by omega
    exact ⟨x, by omega, (by decide : ∀ x, x < 4 → [((x : Nat) : Int)] = vec 1 x) x hx⟩
  | 2, [a, b], _, h =>
    have ha : 0 ≤ a ∧ a ≤ 3 := h 0 (by decide)
    have hb : 0 ≤ b ∧ b ≤ 3 := h 1 (by decide)
    obtain ⟨x, rfl⟩ : ∃ x : Nat, a = (x : Int) := ⟨a.toNat, by omega⟩
    obtain ⟨y, rfl⟩ : ∃ x : Nat, b = (x : Int) := ⟨b.toNat, by omega⟩
    have hx : x < 4 := by omega
    have hy : y < 4 := by omega
    exact ⟨4 * x + y, by omega, (by decide : ∀ x, x < 4 → ∀ y, y < 4 → [((x : Nat) : Int), ((y : Nat) : Int)] = vec 2 (4 * x + y)) x hx y hy⟩
  | 3, [a, b, c], _, h =>
    have ha : 0 ≤ a ∧ a ≤ 3 := h 0 (by decide)
    have hb : 0 ≤ b ∧ b ≤ 3 := h 1 (by decide)
    have hc : 0 ≤ c ∧ c ≤ 3 := h 2 (by decide)
    obtain ⟨x, rfl⟩ : ∃ x : Nat, a = (x : Int) := ⟨a.toNat, by omega⟩
    obtain ⟨y, rfl⟩ : ∃ x : Nat, b = (x : Int) := ⟨b.toNat, by omega⟩
    obtain ⟨z, rfl⟩ : ∃ x : Nat, c = (x : Int) := ⟨c.toNat, by omega⟩
    have hx : x < 4 := by omega
    have hy : y < 4 := by omega
    have hz : z < 4 := by omega
    exact ⟨16 * x + 4 * y + z, by omega, (by decide +kernel : ∀ x, x < 4 → ∀ y, y < 4 → ∀ z, z < 4 → [((x : Nat) : Int), ((y : Nat) : Int), ((z : Nat) : Int)] = vec 3 (16 * x + 4 * y + z)) x hx y hy z hz⟩

/-! ### The lowest of them -/

def belowB (a b : List Int) : Bool := decide (∀ i ∈ List.range a.length, a.getD i 0 ≤ b.getD i 0)
theorem belowB_iff {a b : List Int} : belowB a b = true ↔ ∀ i, i < a.length → a.getD i 0 ≤ b.getD i 0 := by
  unfold belowB; rw [decide_eq_true_eq]
  exact ⟨fun h i hi => h i (List.mem_range.2 hi), fun h i hi => h i (List.mem_range.1 hi)⟩
theorem below_trans {a b c : List Int} (hl : a.length ≤ b.length) (h : belowB a b = true) (k : belowB b c = true) : belowB a c = true := by
  rw [belowB_iff] at h k ⊢
  exact fun i hi => Int.le_trans (h i hi) (k i (by omega))
section
variable (t : List (List Int)) (m : Int) (n : Nat)
def goodC (c : Nat) : Bool := decide (m ≤ (fewV t (vec n c) : Int))
def lowL : Nat → List (List Int)
  | 0 => []
  | c + 1 => if goodC t m n c = true ∧ ¬(lowL c).any (fun l => belowB l (vec n c)) = true then lowL c ++ [vec n c] else lowL c
end
section
variable {t : List (List Int)} {m : Int} {n : Nat}
theorem lowL_len : ∀ c, (lowL t m n c).length ≤ c
  | 0 => Nat.le_refl _
  | c + 1 => by
    have := lowL_len c
    unfold lowL
    split
    · rw [List.length_append, List.length_singleton]; omega
    · omega
theorem lowL_mem {l : List Int} : ∀ {c}, l ∈ lowL t m n c ↔ ∃ d, d < c ∧ l = vec n d ∧ goodC t m n d = true ∧ ¬(lowL t m n d).any (fun l => belowB l (vec n d)) = true
  | 0 => ⟨fun h => (by cases h), fun ⟨d, h, _⟩ => absurd h (Nat.not_lt_zero d)⟩
  | c + 1 => by
    have ih := lowL_mem (l := l) (c := c)
    rw [lowL]
    by_cases hk : goodC t m n c = true ∧ ¬(lowL t m n c).any (fun l => belowB l (vec n c)) = true
    · rw [if_pos hk, List.mem_append, List.mem_singleton, ih]
      constructor
      · rintro (⟨d, h1, h2⟩ | h)
        · exact ⟨d, by omega, h2⟩
        · exact ⟨c, by omega, h, hk⟩
      · rintro ⟨d, h1, h2, h3⟩
        by_cases he : d = c
        · subst he; exact .inr h2
        · exact .inl ⟨d, by omega, h2, h3⟩
    · rw [if_neg hk, ih]
      constructor
      · rintro ⟨d, h1, h2⟩; exact ⟨d, by omega, h2⟩
      · rintro ⟨d, h1, h2, h3⟩
        by_cases he : d = c
        · subst he; exact absurd h3 hk
        · exact ⟨d, by omega, h2, h3⟩
theorem lowL_row {l : List Int} {c : Nat} (h : l ∈ lowL t m n c) : l.length = n := by
  obtain ⟨d, _, rfl, _⟩ := lowL_mem.1 h
  exact vec_len n d
theorem below_self (l : List Int) : belowB l l = true := belowB_iff.2 fun _ _ => Int.le_refl _
theorem low_cover {c d : Nat} (hd : d < c) (hg : goodC t m n d = true) : ∃ l ∈ lowL t m n c, belowB l (vec n d) = true := by
  by_cases hk : (lowL t m n d).any (fun l => belowB l (vec n d)) = true
  · obtain ⟨l, hl, hb⟩ := List.any_eq_true.1 hk
    obtain ⟨d', h1, h2⟩ := lowL_mem.1 hl
    exact ⟨l, lowL_mem.2 ⟨d', by omega, h2⟩, hb⟩
  · exact ⟨vec n d, lowL_mem.2 ⟨d, hd, rfl, hg, hk⟩, below_self _⟩
theorem below_le (hn : n ≤ 3) {c d : Nat} (hc : c < 4 ^ n) (hd : d < 4 ^ n) (h : belowB (vec n c) (vec n d) = true) : c ≤ d :=
  lex_tab n (by omega) c hc d hd fun k hk => by
    have := belowB_iff.1 h k (by rw [vec_len]; exact hk)
    rw [vec_get hk, vec_get hk] at this
    omega
/-- None of them one lower. -/
theorem low_less (hn : n ≤ 3) {l : List Int} (hl : l ∈ lowL t m n (4 ^ n)) {i : Nat} (hi : i < n) (h0 : l.getD i 0 ≠ 0) : (fewV t (l.set i (l.getD i 0 - 1)) : Int) < m ∧ ∃ d, d < 4 ^ n ∧ l.set i (l.getD i 0 - 1) = vec n d := by
  obtain ⟨c, hc, rfl, hg, hk⟩ := lowL_mem.1 hl
  rw [vec_get hi] at h0
  have hnz : ¬c / 4 ^ (n - 1 - i) % 4 = 0 := by omega
  obtain ⟨hle, hdig⟩ := less_tab n (by omega) c hc i hi hnz
  have e : (vec n c).set i ((vec n c).getD i 0 - 1) = vec n (c - 4 ^ (n - 1 - i)) := by
    refine List.ext_getElem (by simp [vec_len]) fun k h1 h2 => ?_
    rw [List.length_set, vec_len] at h1
    have hdk := hdig k h1
    have g1 : ((vec n c).set i ((vec n c).getD i 0 - 1))[k] = if i = k then (vec n c).getD i 0 - 1 else (vec n c).getD k 0 := by
      rw [List.getElem_set]
      split
      · rfl
      · simp [List.getD, vec_len, h1]
    have g2 : (vec n (c - 4 ^ (n - 1 - i)))[k] = (vec n (c - 4 ^ (n - 1 - i))).getD k 0 := by simp [List.getD, vec_len, h1]
    rw [g1, g2, vec_get h1, vec_get h1, vec_get hi]
    by_cases hik : i = k
    · subst hik
      rw [if_pos rfl] at hdk ⊢
      omega
    · rw [if_neg (fun e => hik e.symm)] at hdk
      rw [if_neg hik]
      omega
  have hpos : 0 < 4 ^ (n - 1 - i) := Nat.pow_pos (by decide)
  refine ⟨?_, c - 4 ^ (n - 1 - i), by omega, e⟩
  rw [e]
  apply Int.lt_of_not_ge
  intro hge
  obtain ⟨l, hl, hb⟩ := low_cover (t := t) (m := m) (n := n) (c := c) (d := c - 4 ^ (n - 1 - i)) (by omega) (decide_eq_true hge)
  refine hk (List.any_eq_true.2 ⟨l, hl, below_trans (by rw [lowL_row hl, vec_len]; exact Nat.le_refl _) hb ?_⟩)
  rw [belowB_iff]
  intro k hkn
  rw [vec_len] at hkn
  rw [vec_get hkn, vec_get hkn]
  have := hdig k hkn
  omega
def isLow (t : List (List Int)) (m : Int) (n d : Nat) : Bool := ((List.range (4 ^ n)).filter (goodC t m n)).all fun e => decide (e = d) || !belowB (vec n e) (vec n d)
theorem isLow_iff {d : Nat} : isLow t m n d = true ↔ ∀ e, e < 4 ^ n → goodC t m n e = true → e ≠ d → ¬belowB (vec n e) (vec n d) = true := by
  unfold isLow
  rw [List.all_eq_true]
  constructor
  · intro h e he hg hne hb
    have := h e (List.mem_filter.2 ⟨List.mem_range.2 he, hg⟩)
    rw [decide_eq_false hne, hb] at this
    cases this
  · intro h e he
    obtain ⟨h1, h2⟩ := List.mem_filter.1 he
    by_cases hne : e = d
    · rw [decide_eq_true hne]; rfl
    · have := h e (List.mem_range.1 h1) h2 hne
      rw [decide_eq_false hne, Bool.eq_false_iff.2 this]; rfl
/-- Told otherwise: those with which as many look alike and below which none others are. -/
theorem low_is (hn : n ≤ 3) : ∀ {c}, c ≤ 4 ^ n → lowL t m n c = (((List.range c).filter (goodC t m n)).filter (isLow t m n)).map (vec n)
  | 0, _ => rfl
  | c + 1, hc => by
    have ih := low_is hn (c := c) (by omega)
    have key : (goodC t m n c = true ∧ ¬(lowL t m n c).any (fun l => belowB l (vec n c)) = true) ↔ (goodC t m n c = true ∧ isLow t m n c = true) := by
      refine and_congr_right fun hg => ?_
      rw [isLow_iff]
      constructor
      · intro h e he1 he2 hne hb
        have hle := below_le hn he1 (by omega) hb
        obtain ⟨l, hl, hbl⟩ := low_cover (t := t) (m := m) (n := n) (c := c) (d := e) (by omega) he2
        exact h (List.any_eq_true.2 ⟨l, hl, below_trans (by rw [lowL_row hl, vec_len]; exact Nat.le_refl _) hbl hb⟩)
      · intro h hany
        obtain ⟨l, hl, hb⟩ := List.any_eq_true.1 hany
        obtain ⟨d, h1, rfl, h3, _⟩ := lowL_mem.1 hl
        exact h d (by omega) h3 (by omega) hb
    rw [lowL, List.range_succ, List.filter_append, List.filter_append, List.map_append, ← ih]
    by_cases hk : goodC t m n c = true ∧ ¬(lowL t m n c).any (fun l => belowB l (vec n c)) = true
    · rw [if_pos hk]
      obtain ⟨k1, k2⟩ := key.1 hk
      congr 1
      rw [List.filter_cons, if_pos k1, List.filter_nil, List.filter_cons, if_pos k2]
      rfl
    · rw [if_neg hk]
      have : ([c].filter (goodC t m n)).filter (isLow t m n) = [] := by
        by_cases hg : goodC t m n c = true
        · rw [List.filter_cons, if_pos hg, List.filter_nil, List.filter_cons, if_neg (fun h => hk (key.2 ⟨hg, h⟩))]
          rfl
        · rw [List.filter_cons, if_neg hg]; rfl
      rw [this, List.map_nil, List.append_nil]
end

def clo (hs : List Int) : DV := .raw (.fn 47 (DV.avs [.bp [.sl .int hs] 0]))
theorem clo_free (hs : List Int) : freeD (clo hs) = true := freeDs_av [.bp [.sl .int hs] 0] rfl
theorem below_no {a b : List Int} {i : Nat} (hi : i < a.length) (h : a.getD i 0 > b.getD i 0) : false = belowB a b := by
  symm
  rw [Bool.eq_false_iff]
  intro hb
  have := belowB_iff.1 hb i hi
  omega
def idxB (xs : List (List Int)) (hs : List Int) : Nat → Int
  | 0 => -1
  | k + 1 => if belowB (xs.getD (xs.length - (k + 1)) []) hs = true then ((xs.length - (k + 1) : Nat) : Int) else idxB xs hs k
theorem idxB_at {xs : List (List Int)} {hs : List Int} {i : Nat} (hi : i < xs.length) (hb : belowB (xs.getD i []) hs = true) : idxB xs hs (xs.length - i) = (i : Int) := by
  obtain ⟨k, hk⟩ : ∃ k, xs.length - i = k + 1 := ⟨xs.length - i - 1, by omega⟩
  rw [hk, idxB, show xs.length - (k + 1) = i by omega, if_pos hb]
theorem idxB_next {xs : List (List Int)} {hs : List Int} {i : Nat} (hi : i < xs.length) (hb : ¬belowB (xs.getD i []) hs = true) : idxB xs hs (xs.length - i) = idxB xs hs (xs.length - (i + 1)) := by
  obtain ⟨k, hk⟩ : ∃ k, xs.length - i = k + 1 := ⟨xs.length - i - 1, by omega⟩
  rw [hk, idxB, show xs.length - (k + 1) = i by omega, if_neg hb, show xs.length - (i + 1) = k by omega]
theorem idxB_any {xs : List (List Int)} {hs : List Int} : ∀ {k}, k ≤ xs.length → (0 ≤ idxB xs hs k ↔ (xs.drop (xs.length - k)).any (fun l => belowB l hs) = true)
  | 0, _ => by
    rw [idxB, Nat.sub_zero, List.drop_length]
    simp
  | k + 1, hk => by
    have ih := idxB_any (xs := xs) (hs := hs) (k := k) (by omega)
    have hi : xs.length - (k + 1) < xs.length := by omega
    rw [idxB, drop_cons hi [], List.any_cons]
    by_cases hb : belowB (xs.getD (xs.length - (k + 1)) []) hs = true
    · rw [if_pos hb, hb]; simp
    · rw [if_neg hb, Bool.eq_false_iff.2 hb, Bool.false_or, show xs.length - (k + 1) + 1 = xs.length - k by omega]
      exact ih
theorem idxB_all (xs : List (List Int)) (hs : List Int) : decide (0 ≤ idxB xs hs xs.length) = xs.any fun l => belowB l hs := by
  have h := idxB_any (xs := xs) (hs := hs) (Nat.le_refl _)
  rw [Nat.sub_self, List.drop_zero] at h
  by_cases hb : (xs.any fun l => belowB l hs) = true
  · rw [hb, decide_eq_true (h.2 hb)]
  · rw [Bool.eq_false_iff.2 hb, decide_eq_false (fun h2 => hb (h.1 h2))]

theorem cloneNe_fn (xs : List Int) (hx : xs ≠ []) (hl : xs.length ≤ 1000000) : LiftsN Tryd.prog 43 [.sl .int xs] (.row 3 .int xs) := by
  refine LiftsN.of_body 8 [.tmp 2] Tryd.func43 rfl Tryd.ntmps43 (by kernel_rfl) rfl rfl fun w0 X0 => ?_
  refine AWPD.seq fun K1 hK1 => ?_
  -- region 0
  refine AWPD.keep [0] rfl ?_
  refine AWPD.region tabOK rfl ?_
  refine hK1 _ _ ?_
  clear hK1
  refine AWPD.seq fun K2 hK2 => ?_
  refine AWPD.seq fun K3 hK3 => ?_
  -- region 1
  refine AWPD.keep [0] rfl ?_
  refine AWPD.region tabOK rfl ?_
  refine Exists.intro _ (Exists.intro _ (And.intro (StepD.eqNilRd (by kernel_rfl : Tryd.prog.underlying 22 = some (.slice 3)) hx (by decide) rfl rfl) (And.intro rfl (And.intro trivial ?_))))
  refine hK3 _ _ ?_
  clear hK3
  first | refine AWPD.cond rfl (fun h0 => ?_) (fun h0 => ?_)
  · try dsimp only [Ty.T] at h0
    try simp only [castL_self] at h0
    try simp only [Int.toNat_natCast] at h0
    try simp only [Int.toNat_zero] at h0
    cases h0
  · try dsimp only [Ty.T] at h0
    try simp only [castL_self] at h0
    try simp only [Int.toNat_natCast] at h0
    try simp only [Int.toNat_zero] at h0
    refine AWPD.skip ?_
    refine hK2 _ _ ?_
    clear hK2
    refine AWPD.seq fun K4 hK4 => ?_
    -- region 3
    refine AWPD.keep [0] rfl ?_
    refine AWPD.region tabOK rfl ?_
    refine Exists.intro _ (Exists.intro _ (And.intro (StepD.buildNone tabOK rfl) (And.intro rfl (And.intro trivial ?_))))
    repeat refine And.intro (by first | exact fun h => h | exact fun _ => rfl | (intro h; rw [h]; rfl) | omega | (intros; (try dsimp only [Ty.T, Ty.size]); (try simp only [castL_self, Int.toNat_natCast, Int.toNat_zero, Int.toNat_one, true_and, List.length_append, List.length_set, List.length_drop, List.length_take, List.length_replicate, List.length_cons, List.length_nil, Nat.zero_add, Nat.mul_one]); omega) | decide | (intros; simp_all; done) | (intros; simp_all; omega)) ?_
    refine hK4 _ _ ?_
    clear hK4
    refine AWPD.ret (And.intro (.inl rfl) ?_)
    -- result 0
    exact ⟨_, 1, rfl, rfl, by show some (OD.row _ Ty.int _) = some (OD.row _ Ty.int _); simp only [castL_self, List.nil_append], row_free _ _ _⟩
theorem cloneU_fn (A : Option Addr) (k : Nat) (hk : k ≤ maxLen) : LiftsN Tryd.prog 43 [.u (.slice A 0 k)] (.row 3 .int []) := by
  refine LiftsN.of_body 8 [.tmp 2] Tryd.func43 rfl Tryd.ntmps43 (by kernel_rfl) rfl rfl fun w0 X0 => ?_
  refine AWPD.seq fun K1 hK1 => ?_
  -- region 0
  refine AWPD.keep [0] rfl ?_
  refine AWPD.region tabOK rfl ?_
  refine hK1 _ _ ?_
  clear hK1
  refine AWPD.seq fun K2 hK2 => ?_
  refine AWPD.seq fun K3 hK3 => ?_
  -- region 1
  refine AWPD.keep [0] rfl ?_
  refine AWPD.region tabOK rfl ?_
  refine Exists.intro _ (Exists.intro _ (And.intro (StepD.eqNil (by kernel_rfl : Tryd.prog.underlying 22 = some (.slice 3)) rfl rfl) (And.intro rfl (And.intro trivial ?_))))
  refine hK3 _ _ ?_
  clear hK3
  first | refine AWPD.cond rfl (fun h0 => ?_) (fun h0 => ?_)
  · try dsimp only [Ty.T] at h0
    try simp only [castL_self] at h0
    try simp only [Int.toNat_natCast] at h0
    try simp only [Int.toNat_zero] at h0
    refine AWPD.seq fun K4 hK4 => ?_
    -- region 2
    refine AWPD.keep [] rfl ?_
    refine AWPD.region tabOK rfl ?_
    refine hK4 _ _ ?_
    clear hK4
    refine AWPD.nilRow 2 3 .int rfl (by decide) ?_
    refine AWPD.ret (And.intro (.inl rfl) ?_)
    -- result 0
    exact ⟨_, 0, rfl, rfl, rfl, row_free _ _ _⟩
  · try dsimp only [Ty.T] at h0
    try simp only [castL_self] at h0
    try simp only [Int.toNat_natCast] at h0
    try simp only [Int.toNat_zero] at h0
    refine AWPD.skip ?_
    refine hK2 _ _ ?_
    clear hK2
    refine AWPD.seq fun K5 hK5 => ?_
    -- region 3
    refine AWPD.asSl 0 .int rfl (by decide) hk ?_
    refine AWPD.keep [0] rfl ?_
    refine AWPD.region tabOK rfl ?_
    refine Exists.intro _ (Exists.intro _ (And.intro (StepD.buildNone tabOK rfl) (And.intro rfl (And.intro trivial ?_))))
    repeat refine And.intro (by first | exact fun h => h | exact fun _ => rfl | (intro h; rw [h]; rfl) | omega | (intros; (try dsimp only [Ty.T, Ty.size]); (try simp only [castL_self, Int.toNat_natCast, Int.toNat_zero, Int.toNat_one, true_and, List.length_append, List.length_set, List.length_drop, List.length_take, List.length_replicate, List.length_cons, List.length_nil, Nat.zero_add, Nat.mul_one]); omega) | decide | (intros; simp_all; done) | (intros; simp_all; omega)) ?_
    refine hK5 _ _ ?_
    clear hK5
    refine AWPD.ret (And.intro (.inl rfl) ?_)
    -- result 1
    exact ⟨_, 1, rfl, rfl, by show some (OD.row _ Ty.int _) = some (OD.row _ Ty.int _); simp only [castL_self, List.nil_append], row_free _ _ _⟩

theorem clone_fn (xs : List Int) (hl : xs.length ≤ 1000000) : LiftsN Tryd.prog 43 [.sl .int xs] (.row 3 .int xs) := by
  by_cases hx : xs = []
  · subst hx; exact LiftsN.nilSplit fun A k hk => cloneU_fn A k hk
  · exact cloneNe_fn xs hx hl

theorem below_fn (a b : List Int) (hl : a.length ≤ b.length) (hb : b.length ≤ 1000000) : LiftsD Tryd.prog 48 [.sl .int a, .sl .int b] (.b (belowB a b)) := by
  refine LiftsD.of_body 21 [.tmp 4] Tryd.func48 rfl Tryd.ntmps48 (by kernel_rfl) rfl rfl fun w0 X0 => ?_
  refine AWPD.seq fun K1 hK1 => ?_
  -- region 0
  refine AWPD.keep [0, 1] rfl ?_
  refine AWPD.region tabOK rfl ?_
  refine hK1 _ _ ?_
  clear hK1
  refine AWPD.seq fun K2 hK2 => ?_
  refine AWPD.seq fun K3 hK3 => ?_
  -- region 1
  refine AWPD.keep [0, 1] rfl ?_
  refine AWPD.region tabOK rfl ?_
  refine hK3 _ _ ?_
  clear hK3
  refine AWPD.block ?_
  -- LOOP 0 live [0, 1, 7, 8] changed [8]
  refine AWPD.loopK (σ := Nat) [0, 1, 7] (fun i base => (8, .i (i : Int)) :: base) (fun _ => []) (fun n i => n + i = a.length ∧ ∀ j, j < i → a.getD j 0 ≤ b.getD j 0) (a.length) 0 [] rfl rfl (⟨by omega, by intro j hj; omega⟩) (by decide) trivial (by repeat' first | exact True.intro | exact rfl | exact ⟨rfl, rfl⟩ | refine And.intro ?_ ?_) fun n0 i hI0 => ?_
  obtain ⟨hn0, hv0⟩ := hI0
  refine AWPD.seq fun K4 hK4 => ?_
  -- region 2
  refine AWPD.keep [0, 1, 7, 8] rfl ?_
  refine AWPD.region tabOK rfl ?_
  refine hK4 _ _ ?_
  clear hK4
  refine AWPD.seq fun K5 hK5 => ?_
  first | refine AWPD.condP rfl (fun h0 => ?_) (fun h0 => ?_) | refine AWPD.condN rfl (fun h0 => ?_) (fun h0 => ?_) | refine AWPD.condAP rfl (fun h0 => ?_) (fun h0 => ?_) | refine AWPD.condOP rfl (fun h0 => ?_) (fun h0 => ?_) | refine AWPD.condONN rfl (fun h0 => ?_) (fun h0 => ?_) | refine AWPD.condOPN rfl (fun h0 => ?_) (fun h0 => ?_) | refine AWPD.condA rfl (fun h0 => ?_) (fun h0 => ?_) | refine AWPD.condO rfl (fun h0 => ?_) (fun h0 => ?_) | refine AWPD.cond rfl (fun h0 => ?_) (fun h0 => ?_)
  · try dsimp only [Ty.T] at h0
    try simp only [castL_self] at h0
    try simp only [Int.toNat_natCast] at h0
    try simp only [Int.toNat_zero] at h0
    refine AWPD.skip ?_
    refine hK5 _ _ ?_
    clear hK5
    refine AWPD.seq fun K6 hK6 => ?_
    refine AWPD.block ?_
    refine AWPD.seq fun K7 hK7 => ?_
    -- region 3
    refine AWPD.keep [0, 1, 7, 8] rfl ?_
    refine AWPD.region tabOK rfl ?_
    refine hK7 _ _ ?_
    clear hK7
    refine AWPD.seq fun K8 hK8 => ?_
    -- region 4
    refine AWPD.keep [0, 1, 5, 7, 8] rfl ?_
    refine AWPD.draw tabOK [] rfl (by kernel_rfl) ?_
    repeat refine And.intro (by first | exact fun h => h | exact fun _ => rfl | (intro h; rw [h]; rfl) | omega | (intros; (try dsimp only [Ty.T, Ty.size]); (try simp only [castL_self, Int.toNat_natCast, Int.toNat_zero, Int.toNat_one, true_and, List.length_append, List.length_set, List.length_drop, List.length_take, List.length_replicate, List.length_cons, List.length_nil, Nat.zero_add, Nat.mul_one]); omega) | decide | (intros; simp_all; done) | (intros; simp_all; omega)) ?_
    refine hK8 _ _ ?_
    clear hK8
    first | refine AWPD.condP rfl (fun h1 => ?_) (fun h1 => ?_) | refine AWPD.condN rfl (fun h1 => ?_) (fun h1 => ?_) | refine AWPD.condAP rfl (fun h1 => ?_) (fun h1 => ?_) | refine AWPD.condOP rfl (fun h1 => ?_) (fun h1 => ?_) | refine AWPD.condONN rfl (fun h1 => ?_) (fun h1 => ?_) | refine AWPD.condOPN rfl (fun h1 => ?_) (fun h1 => ?_) | refine AWPD.condA rfl (fun h1 => ?_) (fun h1 => ?_) | refine AWPD.condO rfl (fun h1 => ?_) (fun h1 => ?_) | refine AWPD.cond rfl (fun h1 => ?_) (fun h1 => ?_)
    · try dsimp only [Ty.T] at h1
      try simp only [castL_self] at h1
      try simp only [Int.toNat_natCast] at h1
      try simp only [Int.toNat_zero] at h1
      have h1 : a.getD i 0 > b.getD i 0 := h1
      refine AWPD.seq fun K9 hK9 => ?_
      -- region 5
      refine AWPD.keep [] rfl ?_
      refine AWPD.region tabOK rfl ?_
      refine hK9 _ _ ?_
      clear hK9
      refine AWPD.ret (And.intro (.inl rfl) ?_)
      -- result 0
      refine RetD.one ?_
      exact fitB rfl (below_no (by omega) h1)
    · try dsimp only [Ty.T] at h1
      try simp only [castL_self] at h1
      try simp only [Int.toNat_natCast] at h1
      try simp only [Int.toNat_zero] at h1
      have h1 : ¬a.getD i 0 > b.getD i 0 := h1
      refine AWPD.skip ?_
      refine hK6 _ _ ?_
      clear hK6
      -- region 6
      refine AWPD.keep [0, 1, 7, 8] rfl ?_
      refine AWPD.region tabOK rfl ?_
      repeat refine And.intro (by first | exact fun h => h | exact fun _ => rfl | (intro h; rw [h]; rfl) | omega | (intros; (try dsimp only [Ty.T, Ty.size]); (try simp only [castL_self, Int.toNat_natCast, Int.toNat_zero, Int.toNat_one, true_and, List.length_append, List.length_set, List.length_drop, List.length_take, List.length_replicate, List.length_cons, List.length_nil, Nat.zero_add, Nat.mul_one]); omega) | decide | (intros; simp_all; done) | (intros; simp_all; omega)) ?_
      refine ⟨n0 - 1, i + 1, [], by omega, ⟨by omega, fun j hj => by
          rcases Nat.lt_or_ge j i with h | h
          · exact hv0 j h
          · rw [show j = i by omega]; omega⟩, ⟨by decide, rfl⟩, trivial, ?_⟩
      repeat' first | exact True.intro | exact rfl | exact ⟨rfl, rfl⟩ | refine And.intro ?_ ?_
  · try dsimp only [Ty.T] at h0
    try simp only [castL_self] at h0
    try simp only [Int.toNat_natCast] at h0
    try simp only [Int.toNat_zero] at h0
    refine AWPD.exit ?_
    refine hK2 _ _ ?_
    clear hK2
    refine AWPD.seq fun K10 hK10 => ?_
    -- region 7
    refine AWPD.keep [] rfl ?_
    refine AWPD.region tabOK rfl ?_
    refine hK10 _ _ ?_
    clear hK10
    refine AWPD.ret (And.intro (.inl rfl) ?_)
    -- result 1
    refine RetD.one ?_
    exact fitB rfl (belowB_iff.2 fun j hj => hv0 j (by omega)).symm
theorem clo_fn (a hs : List Int) (hl : a.length ≤ hs.length) (hb : hs.length ≤ 1000000) : LiftsD Tryd.prog 47 [.sl .int a, .bp [.sl .int hs] 0] (.b (belowB a hs)) := by
  refine LiftsD.of_body 7 [.tmp 3] Tryd.func47 rfl Tryd.ntmps47 (by kernel_rfl) rfl rfl fun w0 X0 => ?_
  refine AWPD.seq fun K1 hK1 => ?_
  -- region 0
  refine AWPD.keep [0, 1] rfl ?_
  refine AWPD.region tabOK rfl ?_
  refine hK1 _ _ ?_
  clear hK1
  refine AWPD.seq fun K2 hK2 => ?_
  -- region 1
  refine AWPD.keep [0, 1] rfl ?_
  refine AWPD.region tabOK rfl ?_
  repeat refine And.intro (by first | exact fun h => h | exact fun _ => rfl | (intro h; rw [h]; rfl) | omega | (intros; (try dsimp only [Ty.T, Ty.size]); (try simp only [castL_self, Int.toNat_natCast, Int.toNat_zero, Int.toNat_one, true_and, List.length_append, List.length_set, List.length_drop, List.length_take, List.length_replicate, List.length_cons, List.length_nil, Nat.zero_add, Nat.mul_one]); omega) | decide | (intros; simp_all; done) | (intros; simp_all; omega)) ?_
  refine Exists.intro _ (Exists.intro _ (And.intro (StepD.call (below_fn _ _ (by assumption) (by assumption)) rfl rfl rfl) (And.intro rfl (And.intro trivial ?_))))
  refine hK2 _ _ ?_
  clear hK2
  refine AWPD.ret (And.intro (.inl rfl) ?_)
  -- result 0
  refine RetD.one ?_
  exact fitB rfl rfl
theorem index_fn (xs : List (List Int)) (hs : List Int) (hx : ∀ x ∈ xs, x.length ≤ hs.length) (hb : hs.length ≤ 1000000) (hl : xs.length ≤ 1000000) : LiftsD Tryd.prog 53 [.sl (.sl .int) xs, clo hs] (.i (idxB xs hs xs.length)) := by
  refine LiftsD.of_body 19 [.tmp 4] Tryd.func53 rfl Tryd.ntmps53 (by kernel_rfl) rfl rfl fun w0 X0 => ?_
  refine AWPD.seq fun K1 hK1 => ?_
  -- region 0
  refine AWPD.keep [0, 1] rfl ?_
  refine AWPD.region tabOK rfl ?_
  refine hK1 _ _ ?_
  clear hK1
  refine AWPD.seq fun K2 hK2 => ?_
  refine AWPD.seq fun K3 hK3 => ?_
  -- region 1
  refine AWPD.keep [0, 1] rfl ?_
  refine AWPD.region tabOK rfl ?_
  refine hK3 _ _ ?_
  clear hK3
  refine AWPD.block ?_
  -- LOOP 0 live [0, 1, 7, 8] changed [8]
  refine AWPD.loopK (σ := Nat) [0, 1, 7] (fun i base => (8, .i (i : Int)) :: base) (fun _ => []) (fun n i => n + i = xs.length ∧ idxB xs hs xs.length = idxB xs hs (xs.length - i)) (xs.length) 0 [] rfl rfl (⟨by omega, by rw [Nat.sub_zero]⟩) (by decide) trivial (by repeat' first | exact ⟨rfl, clo_free hs⟩ | exact True.intro | exact rfl | exact ⟨rfl, rfl⟩ | refine And.intro ?_ ?_) fun n0 i hI0 => ?_
  obtain ⟨hn0, hv0⟩ := hI0
  refine AWPD.seq fun K4 hK4 => ?_
  -- region 2
  refine AWPD.keep [0, 1, 7, 8] rfl ?_
  refine AWPD.region tabOK rfl ?_
  refine hK4 _ _ ?_
  clear hK4
  refine AWPD.seq fun K5 hK5 => ?_
  first | refine AWPD.condP rfl (fun h0 => ?_) (fun h0 => ?_) | refine AWPD.condN rfl (fun h0 => ?_) (fun h0 => ?_) | refine AWPD.condAP rfl (fun h0 => ?_) (fun h0 => ?_) | refine AWPD.condOP rfl (fun h0 => ?_) (fun h0 => ?_) | refine AWPD.condONN rfl (fun h0 => ?_) (fun h0 => ?_) | refine AWPD.condOPN rfl (fun h0 => ?_) (fun h0 => ?_) | refine AWPD.condA rfl (fun h0 => ?_) (fun h0 => ?_) | refine AWPD.condO rfl (fun h0 => ?_) (fun h0 => ?_) | refine AWPD.cond rfl (fun h0 => ?_) (fun h0 => ?_)
  · try dsimp only [Ty.T] at h0
    try simp only [castL_self] at h0
    try simp only [Int.toNat_natCast] at h0
    try simp only [Int.toNat_zero] at h0
    refine AWPD.skip ?_
    refine hK5 _ _ ?_
    clear hK5
    refine AWPD.seq fun K6 hK6 => ?_
    refine AWPD.block ?_
    refine AWPD.seq fun K7 hK7 => ?_
    -- region 3
    refine AWPD.keep [0, 1, 7, 8] rfl ?_
    refine AWPD.region tabOK rfl ?_
    refine hK7 _ _ ?_
    clear hK7
    refine AWPD.seq fun K8 hK8 => ?_
    -- region 4
    refine AWPD.keep [0, 1, 5, 7, 8] rfl ?_
    refine AWPD.region tabOK rfl ?_
    repeat refine And.intro (by first | exact fun h => h | exact fun _ => rfl | (intro h; rw [h]; rfl) | omega | (intros; (try dsimp only [Ty.T, Ty.size]); (try simp only [castL_self, Int.toNat_natCast, Int.toNat_zero, Int.toNat_one, true_and, List.length_append, List.length_set, List.length_drop, List.length_take, List.length_replicate, List.length_cons, List.length_nil, Nat.zero_add, Nat.mul_one]); omega) | decide | (intros; simp_all; done) | (intros; simp_all; omega)) ?_
    refine Exists.intro _ (Exists.intro _ (And.intro (StepD.callFn (cs := [.bp [.sl .int hs] 0]) (clo_fn (xs.getD i []) hs (hx _ (getD_mem (show i < xs.length by omega) [])) hb) rfl rfl rfl rfl rfl) (And.intro rfl (And.intro trivial ?_))))
    refine hK8 _ _ ?_
    clear hK8
    first | refine AWPD.cond rfl (fun h1 => ?_) (fun h1 => ?_)
    · try dsimp only [Ty.T] at h1
      try simp only [castL_self] at h1
      try simp only [Int.toNat_natCast] at h1
      try simp only [Int.toNat_zero] at h1
      have h1 : belowB (xs.getD i []) hs = true := h1
      refine AWPD.seq fun K9 hK9 => ?_
      -- region 5
      refine AWPD.keep [5] rfl ?_
      refine AWPD.region tabOK rfl ?_
      refine hK9 _ _ ?_
      clear hK9
      refine AWPD.ret (And.intro (.inl rfl) ?_)
      -- result 0
      refine RetD.one ?_
      exact fitI rfl (by rw [hv0, idxB_at (by omega) h1])
    · try dsimp only [Ty.T] at h1
      try simp only [castL_self] at h1
      try simp only [Int.toNat_natCast] at h1
      try simp only [Int.toNat_zero] at h1
      have h1 : ¬belowB (xs.getD i []) hs = true := by rw [show belowB (xs.getD i []) hs = false from h1]; decide
      refine AWPD.skip ?_
      refine hK6 _ _ ?_
      clear hK6
      -- region 6
      refine AWPD.keep [0, 1, 7, 8] rfl ?_
      refine AWPD.region tabOK rfl ?_
      repeat refine And.intro (by first | exact fun h => h | exact fun _ => rfl | (intro h; rw [h]; rfl) | omega | (intros; (try dsimp only [Ty.T, Ty.size]); (try simp only [castL_self, Int.toNat_natCast, Int.toNat_zero, Int.toNat_one, true_and, List.length_append, List.length_set, List.length_drop, List.length_take, List.length_replicate, List.length_cons, List.length_nil, Nat.zero_add, Nat.mul_one]); omega) | decide | (intros; simp_all; done) | (intros; simp_all; omega)) ?_
      refine ⟨n0 - 1, i + 1, [], by omega, ⟨by omega, hv0.trans (idxB_next (by omega) h1)⟩, ⟨by decide, rfl⟩, trivial, ?_⟩
      repeat' first | exact ⟨rfl, clo_free hs⟩ | exact True.intro | exact rfl | exact ⟨rfl, rfl⟩ | refine And.intro ?_ ?_
  · try dsimp only [Ty.T] at h0
    try simp only [castL_self] at h0
    try simp only [Int.toNat_natCast] at h0
    try simp only [Int.toNat_zero] at h0
    refine AWPD.exit ?_
    refine hK2 _ _ ?_
    clear hK2
    refine AWPD.seq fun K10 hK10 => ?_
    -- region 7
    refine AWPD.keep [] rfl ?_
    refine AWPD.region tabOK rfl ?_
    refine hK10 _ _ ?_
    clear hK10
    refine AWPD.ret (And.intro (.inl rfl) ?_)
    -- result 1
    refine RetD.one ?_
    exact fitI rfl (by rw [hv0, show xs.length - i = 0 by omega, idxB])
theorem contains_fn (xs : List (List Int)) (hs : List Int) (hx : ∀ x ∈ xs, x.length ≤ hs.length) (hb : hs.length ≤ 1000000) (hl : xs.length ≤ 1000000) : LiftsD Tryd.prog 46 [.sl (.sl .int) xs, clo hs] (.b (xs.any fun l => belowB l hs)) := by
  refine LiftsD.of_body 9 [.tmp 4] Tryd.func46 rfl Tryd.ntmps46 (by kernel_rfl) rfl rfl fun w0 X0 => ?_
  refine AWPD.seq fun K1 hK1 => ?_
  -- region 0
  refine AWPD.keep [0, 1] rfl ?_
  refine AWPD.region tabOK rfl ?_
  refine hK1 _ _ ?_
  clear hK1
  refine AWPD.seq fun K2 hK2 => ?_
  -- region 1
  refine AWPD.keep [0, 1] rfl ?_
  refine AWPD.region tabOK rfl ?_
  refine Exists.intro _ (Exists.intro _ (And.intro (StepD.call (index_fn xs hs hx hb hl) rfl (by simp [freeDs, freeD, clo_free]) rfl) (And.intro rfl (And.intro trivial ?_))))
  refine hK2 _ _ ?_
  clear hK2
  refine AWPD.ret (And.intro (.inl rfl) ?_)
  -- result 0
  refine RetD.one ?_
  exact fitB rfl (idxB_all xs hs)

def lowE (t : List (List Int)) (m : Int) : Int := if rowsE t ≠ 0 then rowsE t else if 1 ≤ m ∧ m ≤ 40 then 0 else 1
def lowV (t : List (List Int)) (m : Int) : List (List Int) := if lowE t m = 0 then lowL t m (t.getD 0 []).length (4 ^ (t.getD 0 []).length) else []
theorem vec_zero (n : Nat) : List.replicate n (0 : Int) = vec n 0 := by
  unfold vec
  refine List.ext_getElem (by simp) fun i h1 h2 => ?_
  simp
def rowI (r : List Int) : OD := .row 3 .int r
theorem low_yes {t : List (List Int)} {m : Int} {N c : Nat} (h : m ≤ (fewV t (vec N c) : Int) ∧ ((lowL t m N c).any fun l => belowB l (vec N c)) = false) : lowL t m N c ++ [vec N c] = lowL t m N (c + 1) := by
  rw [lowL, if_pos ⟨decide_eq_true h.1, by rw [h.2]; decide⟩]
theorem low_not {t : List (List Int)} {m : Int} {N c : Nat} (h : ¬(m ≤ (fewV t (vec N c) : Int) ∧ ((lowL t m N c).any fun l => belowB l (vec N c)) = false)) : lowL t m N c = lowL t m N (c + 1) := by
  rw [lowL, if_neg]
  rintro ⟨h1, h2⟩
  exact h ⟨of_decide_eq_true h1, Bool.eq_false_iff.2 h2⟩
theorem rows_snoc {L : List (List Int)} {v : List Int} {k : Nat} (h : k = L.length) : (L.map rowI ++ [OD.dead]).set k (rowI v) = (L ++ [v]).map rowI := by
  subst h
  have := set_last (L.map rowI) OD.dead (rowI v)
  rw [List.length_map] at this
  rw [this, List.map_append]; rfl
theorem rows_dead {L : List (List Int)} {k : Nat} (h : k = L.length) : (L.map rowI ++ [OD.dead])[k]? = some .dead := by
  subst h
  rw [List.getElem?_append_right (by simp)]
  simp
theorem pow_few {N : Nat} (h : N ≤ 3) : 4 ^ N ≤ 64 := Nat.pow_le_pow_right (n := 4) (by decide) h
theorem pow_some (N : Nat) : 0 < 4 ^ N := Nat.pow_pos (by decide)
theorem car_digit {N c q : Nat} (hq : q < N) : (carV N c (q + 1)).getD q 0 = ((c / 4 ^ (N - 1 - q) % 4 : Nat) : Int) := by
  rw [carV_get (by omega) hq, vec_get hq]

theorem Lowest_fn (t : List (List Int)) (m : Int) : LiftsD Tryd.prog 28 [.sl (.sl .int) t, .i m] (.tup [.sl (.sl .int) (lowV t m), .er 56 (lowE t m)]) := by
  refine LiftsD.of_body 66 [.tmp 4, .tmp 5] Tryd.func28 rfl Tryd.ntmps28 (by kernel_rfl) rfl rfl fun w0 X0 => ?_
  refine AWPD.seq fun K1 hK1 => ?_
  -- region 0
  refine AWPD.keep [0, 1] rfl ?_
  refine AWPD.region tabOK rfl ?_
  refine hK1 _ _ ?_
  clear hK1
  refine AWPD.seq fun K2 hK2 => ?_
  refine AWPD.seq fun K3 hK3 => ?_
  -- region 1
  refine AWPD.keep [0, 1] rfl ?_
  refine AWPD.region tabOK rfl ?_
  refine Exists.intro _ (Exists.intro _ (And.intro (StepD.call (anCheck_fn _) rfl rfl rfl) (And.intro rfl (And.intro trivial ?_))))
  refine hK3 _ _ ?_
  clear hK3
  refine AWPD.seq fun K4 hK4 => ?_
  -- region 2
  refine AWPD.keep [0, 1, 6] rfl ?_
  refine AWPD.region tabOK rfl ?_
  refine hK4 _ _ ?_
  clear hK4
  first | refine AWPD.condP rfl (fun h0 => ?_) (fun h0 => ?_) | refine AWPD.condN rfl (fun h0 => ?_) (fun h0 => ?_) | refine AWPD.condAP rfl (fun h0 => ?_) (fun h0 => ?_) | refine AWPD.condOP rfl (fun h0 => ?_) (fun h0 => ?_) | refine AWPD.condONN rfl (fun h0 => ?_) (fun h0 => ?_) | refine AWPD.condOPN rfl (fun h0 => ?_) (fun h0 => ?_) | refine AWPD.condA rfl (fun h0 => ?_) (fun h0 => ?_) | refine AWPD.condO rfl (fun h0 => ?_) (fun h0 => ?_) | refine AWPD.cond rfl (fun h0 => ?_) (fun h0 => ?_)
  · try dsimp only [Ty.T] at h0
    try simp only [castL_self] at h0
    try simp only [Int.toNat_natCast] at h0
    try simp only [Int.toNat_zero] at h0
    have h0 : rowsE t ≠ 0 := by simpa using h0
    refine AWPD.seq fun K5 hK5 => ?_
    -- region 3
    refine AWPD.keep [6] rfl ?_
    refine AWPD.region tabOK rfl ?_
    refine hK5 _ _ ?_
    clear hK5
    refine AWPD.ret (And.intro (.inl rfl) ?_)
    -- result 0
    exact ⟨fitN rfl (by unfold lowV; rw [if_neg]; unfold lowE; rw [if_pos h0]; exact h0) (by decide), fitE rfl (by unfold lowE; rw [if_pos h0])⟩
  · try dsimp only [Ty.T] at h0
    try simp only [castL_self] at h0
    try simp only [Int.toNat_natCast] at h0
    try simp only [Int.toNat_zero] at h0
    have h0 : rowsE t = 0 := by simpa using h0
    have g := rows_good h0
    have gs := g.some
    have gc := g.cols
    obtain ⟨N, hN⟩ : ∃ N, (t.getD 0 []).length = N := ⟨_, rfl⟩
    have hp := pow_few (show N ≤ 3 by omega)
    have hp0 := pow_some N
    refine AWPD.skip ?_
    refine hK2 _ _ ?_
    clear hK2
    refine AWPD.seq fun K6 hK6 => ?_
    refine AWPD.seq fun K7 hK7 => ?_
    -- region 4
    refine AWPD.keep [0, 1] rfl ?_
    refine AWPD.region tabOK rfl ?_
    refine Exists.intro _ (Exists.intro _ (And.intro (StepD.call (within_fn _ _ _) rfl rfl rfl) (And.intro rfl (And.intro trivial ?_))))
    refine hK7 _ _ ?_
    clear hK7
    first | refine AWPD.condP rfl (fun h1 => ?_) (fun h1 => ?_) | refine AWPD.condN rfl (fun h1 => ?_) (fun h1 => ?_) | refine AWPD.condAP rfl (fun h1 => ?_) (fun h1 => ?_) | refine AWPD.condOP rfl (fun h1 => ?_) (fun h1 => ?_) | refine AWPD.condONN rfl (fun h1 => ?_) (fun h1 => ?_) | refine AWPD.condOPN rfl (fun h1 => ?_) (fun h1 => ?_) | refine AWPD.condA rfl (fun h1 => ?_) (fun h1 => ?_) | refine AWPD.condO rfl (fun h1 => ?_) (fun h1 => ?_) | refine AWPD.cond rfl (fun h1 => ?_) (fun h1 => ?_)
    · try dsimp only [Ty.T] at h1
      try simp only [castL_self] at h1
      try simp only [Int.toNat_natCast] at h1
      try simp only [Int.toNat_zero] at h1
      have h1 : ¬(1 ≤ m ∧ m ≤ 40) := by simpa using h1
      refine AWPD.seq fun K8 hK8 => ?_
      -- region 5
      refine AWPD.keep [] rfl ?_
      refine AWPD.region tabOK rfl ?_
      repeat refine And.intro (by first | exact fun h => h | exact fun _ => rfl | (intro h; rw [h]; rfl) | omega | (intros; (try dsimp only [Ty.T, Ty.size]); (try simp only [castL_self, Int.toNat_natCast, Int.toNat_zero, Int.toNat_one, true_and, List.length_append, List.length_set, List.length_drop, List.length_take, List.length_replicate, List.length_cons, List.length_nil, Nat.zero_add, Nat.mul_one]); omega) | decide | (intros; simp_all; done) | (intros; simp_all; omega)) ?_
      refine hK8 _ _ ?_
      clear hK8
      refine AWPD.ret (And.intro (.inl rfl) ?_)
      -- result 1
      have e : lowE t m = 1 := by unfold lowE; rw [if_neg (fun h => h h0), if_neg h1]
      exact ⟨fitN rfl (by unfold lowV; rw [e, if_neg (by decide)]) (by decide), fitE rfl e.symm⟩
    · try dsimp only [Ty.T] at h1
      try simp only [castL_self] at h1
      try simp only [Int.toNat_natCast] at h1
      try simp only [Int.toNat_zero] at h1
      have h1 : 1 ≤ m ∧ m ≤ 40 := by simpa using h1
      have hle : lowE t m = 0 := by unfold lowE; rw [if_neg (fun h => h h0), if_pos h1]
      refine AWPD.skip ?_
      refine hK6 _ _ ?_
      clear hK6
      refine AWPD.seq fun K9 hK9 => ?_
      -- region 6
      refine AWPD.keep [0, 1] rfl ?_
      refine AWPD.region tabOK rfl ?_
      refine hK9 _ _ ?_
      clear hK9
      refine AWPD.seq fun K10 hK10 => ?_
      -- region 7
      refine AWPD.keep [0, 1, 7] rfl ?_
      refine AWPD.region tabOK rfl ?_
      repeat refine And.intro (by first | exact fun h => h | exact fun _ => rfl | (intro h; rw [h]; rfl) | omega | (intros; (try dsimp only [Ty.T, Ty.size]); (try simp only [castL_self, Int.toNat_natCast, Int.toNat_zero, Int.toNat_one, true_and, List.length_append, List.length_set, List.length_drop, List.length_take, List.length_replicate, List.length_cons, List.length_nil, Nat.zero_add, Nat.mul_one]); omega) | decide | (intros; simp_all; done) | (intros; simp_all; omega)) ?_
      refine hK10 _ _ ?_
      clear hK10
      refine AWPD.block ?_
      -- LOOP 0 live [0, 1, 7, 8] changed [7]
      refine AWPD.freezeR 8 (i := 1) (fun b hb => by cases hb) rfl rfl ?_
      refine AWPD.nilRow 7 22 .val rfl (by decide) ?_
      refine AWPD.rows0 [] ?_
      refine AWPD.loopK (σ := Nat × List Value) [0, 1, 8] (fun z base => (7, .ob 1) :: base) (fun z => [.row 3 .int (vec N z.1), .row 22 .val z.2, rowsO z.2 ((lowL t m N z.1).map rowI)]) (fun n z => n + z.1 = 4 ^ N ∧ z.1 < 4 ^ N ∧ z.2.length = (lowL t m N z.1).length) (4 ^ N) (0, []) [0, 2, 3] rfl rfl (⟨by omega, hp0, rfl⟩) (by decide) ⟨⟨rfl, rfl, by show List.replicate (Int.toNat ((t.getD 0 []).length : Int)) (0 : Int) = vec N 0; rw [Int.toNat_natCast, hN]; exact vec_zero N⟩, ⟨rfl, rfl, rfl⟩, rfl, trivial⟩ (by repeat' first | exact True.intro | exact rfl | exact ⟨rfl, rfl⟩ | refine And.intro ?_ ?_) fun n0 z hI0 => ?_
      obtain ⟨c, hd⟩ := z
      obtain ⟨hn0, hc, hdl⟩ := hI0
      dsimp only at hn0 hc hdl ⊢
      have hll := lowL_len (t := t) (m := m) (n := N) c
      have hvl := vec_len N c
      have hgH : HeightsG t (vec N c) := ⟨g, h0, by rw [vec_len, hN], fun k hk => vec_in (by rw [vec_len] at hk; exact hk)⟩
      have hlr : ∀ x ∈ lowL t m N c, x.length ≤ (vec N c).length := fun x hx => by rw [lowL_row hx, vec_len]; exact Nat.le_refl _
      refine AWPD.block ?_
      refine AWPD.seq fun K11 hK11 => ?_
      refine AWPD.seq fun K12 hK12 => ?_
      -- region 8
      refine AWPD.keep [0, 1, 7, 8] rfl ?_
      refine AWPD.region tabOK rfl ?_
      repeat refine And.intro (by first | exact fun h => h | exact fun _ => rfl | (intro h; rw [h]; rfl) | omega | (intros; (try dsimp only [Ty.T, Ty.size]); (try simp only [castL_self, Int.toNat_natCast, Int.toNat_zero, Int.toNat_one, true_and, List.length_append, List.length_set, List.length_drop, List.length_take, List.length_replicate, List.length_cons, List.length_nil, Nat.zero_add, Nat.mul_one]); omega) | decide | (intros; simp_all; done) | (intros; simp_all; omega)) ?_
      refine Exists.intro _ (Exists.intro _ (And.intro (StepD.callS (fewest_fn t (vec N c) hgH) rfl rfl rfl) (And.intro rfl (And.intro trivial ?_))))
      repeat refine And.intro (by first | exact fun h => h | exact fun _ => rfl | (intro h; rw [h]; rfl) | omega | (intros; (try dsimp only [Ty.T, Ty.size]); (try simp only [castL_self, Int.toNat_natCast, Int.toNat_zero, Int.toNat_one, true_and, List.length_append, List.length_set, List.length_drop, List.length_take, List.length_replicate, List.length_cons, List.length_nil, Nat.zero_add, Nat.mul_one]); omega) | decide | (intros; simp_all; done) | (intros; simp_all; omega)) ?_
      refine Exists.intro _ (Exists.intro _ (And.intro (fun hg => StepD.makeFn (ds := [.bp [.ob 0] 0]) rfl) (And.intro (fun hf => rfl) (And.intro rfl (And.intro trivial ?_)))))
      repeat refine And.intro (by first | exact fun h => h | exact fun _ => rfl | (intro h; rw [h]; rfl) | omega | (intros; (try dsimp only [Ty.T, Ty.size]); (try simp only [castL_self, Int.toNat_natCast, Int.toNat_zero, Int.toNat_one, true_and, List.length_append, List.length_set, List.length_drop, List.length_take, List.length_replicate, List.length_cons, List.length_nil, Nat.zero_add, Nat.mul_one]); omega) | decide | (intros; simp_all; done) | (intros; simp_all; omega)) ?_
      refine Exists.intro _ (Exists.intro _ (And.intro (fun hg => StepD.callV (ws := [.sl (.sl .int) (lowL t m N c), clo (vec N c)]) (contains_fn (lowL t m N c) (vec N c) hlr (by rw [vec_len]; omega) (by omega)) rfl ⟨SnapTo.mat (e := 3) (τ := .int) (i := 1) (j := 2) (rows := lowL t m N c) (getOD_map rfl) (getOD_map rfl), SnapTo.fn ⟨SnapTo.cell (SnapTo.ints rfl), trivial⟩, trivial⟩ rfl) (And.intro (fun hf => rfl) (And.intro rfl (And.intro trivial ?_)))))
      repeat refine And.intro (by first | exact fun h => h | exact fun _ => rfl | (intro h; rw [h]; rfl) | omega | (intros; (try dsimp only [Ty.T, Ty.size]); (try simp only [castL_self, Int.toNat_natCast, Int.toNat_zero, Int.toNat_one, true_and, List.length_append, List.length_set, List.length_drop, List.length_take, List.length_replicate, List.length_cons, List.length_nil, Nat.zero_add, Nat.mul_one]); omega) | decide | (intros; simp_all; done) | (intros; simp_all; omega)) ?_
      refine hK12 _ _ ?_
      clear hK12
      first | refine AWPD.cond rfl (fun h2 => ?_) (fun h2 => ?_)
      · try dsimp only [Ty.T] at h2
        try simp only [castL_self] at h2
        try simp only [Int.toNat_natCast] at h2
        try simp only [Int.toNat_zero] at h2
        have h2 : m ≤ (fewV t (vec N c) : Int) ∧ ((lowL t m N c).any fun l => belowB l (vec N c)) = false := by simpa using h2
        -- region 9
        refine AWPD.keep [0, 1, 7, 8] rfl ?_
        refine AWPD.region tabOK rfl ?_
        repeat refine And.intro (by first | exact fun h => h | exact fun _ => rfl | (intro h; rw [h]; rfl) | omega | (intros; (try dsimp only [Ty.T, Ty.size]); (try simp only [castL_self, Int.toNat_natCast, Int.toNat_zero, Int.toNat_one, true_and, List.length_append, List.length_set, List.length_drop, List.length_take, List.length_replicate, List.length_cons, List.length_nil, Nat.zero_add, Nat.mul_one]); omega) | decide | (intros; simp_all; done) | (intros; simp_all; omega)) ?_
        refine Exists.intro _ (Exists.intro _ (And.intro (StepD.callNV (ws := [.sl .int (vec N c)]) (clone_fn (vec N c) (by rw [vec_len]; omega)) rfl ⟨SnapTo.ints rfl, trivial⟩ (flat_int _)) (And.intro rfl (And.intro trivial ?_))))
        refine Exists.intro _ (Exists.intro _ (And.intro (StepD.buildH tabOK rfl rfl rfl rfl) (And.intro rfl (And.intro trivial ?_))))
        refine Exists.intro _ (Exists.intro _ (And.intro (StepD.appendH tabOK rfl rfl rfl rfl rfl (by constructor <;> omega)) (And.intro rfl (And.intro trivial ?_))))
        refine hK11 _ _ ?_
        clear hK11
        refine AWPD.seq fun K13 hK13 => ?_
        -- region 10
        first
          | (refine AWPD.holeM 2 (.slice none 0 0) rfl ?_
             refine AWPD.absorb 4 2 3 hd.length (by decide) (by decide) (by decide) rfl rfl rfl (rows_dead hdl) (by simp) (flat_int _) fun x => ?_
             have e1 : (hd ++ [(.slice none 0 0 : Value)]).set hd.length x = hd ++ [x] := set_last _ _ _
             have e2 := (rows_snoc (v := vec N c) hdl).trans (congrArg (List.map rowI) (low_yes h2))
             refine AWPD.to [0, 4, 2] [(0, .sl (.sl .int) t), (1, .i m), (7, .ob 1), (8, .bp [.ob 0] 0)] [.row 3 .int (vec N c), .row 22 .val (hd ++ [x]), rowsO (hd ++ [x]) ((lowL t m N (c + 1)).map rowI)] rfl (by decide) ⟨⟨rfl, rfl, rfl⟩, ⟨rfl, rfl, e1⟩, (by show rowsC _ _ = rowsC _ _; rw [← e2, ← e1]; rfl), trivial⟩ ⟨⟨rfl, rfl⟩, rfl, rfl, ⟨rfl, rfl⟩, trivial⟩ ?_
             have hdl2 : (hd ++ [x]).length = (lowL t m N (c + 1)).length := by rw [← low_yes h2]; simp [hdl]
             revert hdl2
             generalize hd ++ [x] = hd2
             intro hdl2)
          | (rw [low_not h2]
             rw [low_not h2] at hdl
             obtain ⟨hd2, rfl⟩ : ∃ hd2, hd2 = hd := ⟨_, rfl⟩
             have hdl2 := hdl)
        refine AWPD.keep [0, 1, 7, 8] rfl ?_
        refine AWPD.region tabOK rfl ?_
        repeat refine And.intro (by first | exact fun h => h | exact fun _ => rfl | (intro h; rw [h]; rfl) | omega | (intros; (try dsimp only [Ty.T, Ty.size]); (try simp only [castL_self, Int.toNat_natCast, Int.toNat_zero, Int.toNat_one, true_and, List.length_append, List.length_set, List.length_drop, List.length_take, List.length_replicate, List.length_cons, List.length_nil, Nat.zero_add, Nat.mul_one]); omega) | decide | (intros; simp_all; done) | (intros; simp_all; omega)) ?_
        refine hK13 _ _ ?_
        clear hK13
        refine AWPD.seq fun K14 hK14 => ?_
        refine AWPD.block ?_
        -- LOOP 1 live [0, 1, 7, 8, 9] changed [9]
        refine AWPD.loopK (σ := Nat) [0, 1, 7, 8] (fun i base => (9, .i ((i : Int) - 1)) :: base) (fun i => [.row 3 .int (carV N c i), .row 22 .val hd2, rowsO hd2 ((lowL t m N (c + 1)).map rowI)]) (fun n i => n = i ∧ i ≤ N ∧ ∀ k, k < N → i ≤ k → c / 4 ^ (N - 1 - k) % 4 = 3) N N [0, 1, 2] rfl rfl (⟨rfl, Nat.le_refl _, fun k hk hk2 => by omega⟩) (by decide) ⟨⟨rfl, rfl, carV_all N c⟩, ⟨rfl, rfl, rfl⟩, rfl, trivial⟩ (by repeat' first | exact congrArg (fun q : Nat => (q : Int) - 1) (vec_len _ _) | exact True.intro | exact rfl | exact ⟨rfl, rfl⟩ | refine And.intro ?_ ?_) fun n1 i hI1 => ?_
        obtain ⟨hn1, hiN, hv1⟩ := hI1
        have hcl := carV_len N c i
        refine AWPD.seq fun K15 hK15 => ?_
        refine AWPD.seq fun K16 hK16 => ?_
        -- region 11
        refine AWPD.keep [0, 1, 7, 8, 9] rfl ?_
        refine AWPD.region tabOK rfl ?_
        repeat refine And.intro (by first | exact fun h => h | exact fun _ => rfl | (intro h; rw [h]; rfl) | omega | (intros; (try dsimp only [Ty.T, Ty.size]); (try simp only [castL_self, Int.toNat_natCast, Int.toNat_zero, Int.toNat_one, true_and, List.length_append, List.length_set, List.length_drop, List.length_take, List.length_replicate, List.length_cons, List.length_nil, Nat.zero_add, Nat.mul_one]); omega) | decide | (intros; simp_all; done) | (intros; simp_all; omega)) ?_
        refine hK16 _ _ ?_
        clear hK16
        first | refine AWPD.condP rfl (fun h3 => ?_) (fun h3 => ?_) | refine AWPD.condN rfl (fun h3 => ?_) (fun h3 => ?_) | refine AWPD.condAP rfl (fun h3 => ?_) (fun h3 => ?_) | refine AWPD.condOP rfl (fun h3 => ?_) (fun h3 => ?_) | refine AWPD.condONN rfl (fun h3 => ?_) (fun h3 => ?_) | refine AWPD.condOPN rfl (fun h3 => ?_) (fun h3 => ?_) | refine AWPD.condA rfl (fun h3 => ?_) (fun h3 => ?_) | refine AWPD.condO rfl (fun h3 => ?_) (fun h3 => ?_) | refine AWPD.cond rfl (fun h3 => ?_) (fun h3 => ?_)
        · try dsimp only [Ty.T] at h3
          try simp only [castL_self] at h3
          try simp only [Int.toNat_natCast] at h3
          try simp only [Int.toNat_zero] at h3
          obtain ⟨q, rfl⟩ : ∃ q, i = q + 1 := ⟨i - 1, by omega⟩
          rw [show ((q + 1 : Nat) : Int) - 1 = (q : Int) by omega] at h3 ⊢
          rw [Int.toNat_natCast, car_digit (by omega)] at h3
          have hv2 : ∀ k, k < N → q ≤ k → c / 4 ^ (N - 1 - k) % 4 = 3 := fun k hk hk2 => by
            rcases Nat.lt_or_ge q k with h | h
            · exact hv1 k hk h
            · rw [show k = q by omega]; omega
          refine AWPD.skip ?_
          refine hK15 _ _ ?_
          clear hK15
          refine AWPD.block ?_
          refine AWPD.seq fun K17 hK17 => ?_
          -- region 12
          refine AWPD.keep [0, 1, 7, 8, 9] rfl ?_
          refine AWPD.region tabOK rfl ?_
          repeat refine And.intro (by first | exact fun h => h | exact fun _ => rfl | (intro h; rw [h]; rfl) | omega | (intros; (try dsimp only [Ty.T, Ty.size]); (try simp only [castL_self, Int.toNat_natCast, Int.toNat_zero, Int.toNat_one, true_and, List.length_append, List.length_set, List.length_drop, List.length_take, List.length_replicate, List.length_cons, List.length_nil, Nat.zero_add, Nat.mul_one]); omega) | decide | (intros; simp_all; done) | (intros; simp_all; omega)) ?_
          refine hK17 _ _ ?_
          clear hK17
          -- region 13
          refine AWPD.keep [0, 1, 7, 8, 9] rfl ?_
          refine AWPD.region tabOK rfl ?_
          repeat refine And.intro (by first | exact fun h => h | exact fun _ => rfl | (intro h; rw [h]; rfl) | omega | (intros; (try dsimp only [Ty.T, Ty.size]); (try simp only [castL_self, Int.toNat_natCast, Int.toNat_zero, Int.toNat_one, true_and, List.length_append, List.length_set, List.length_drop, List.length_take, List.length_replicate, List.length_cons, List.length_nil, Nat.zero_add, Nat.mul_one]); omega) | decide | (intros; simp_all; done) | (intros; simp_all; omega)) ?_
          refine ⟨n1 - 1, q, [0, 1, 2], by omega, ⟨by omega, by omega, hv2⟩, ⟨by decide, rfl⟩, ⟨⟨rfl, rfl, by show (carV N c (q + 1)).set (Int.toNat (q : Int)) 0 = carV N c q; rw [Int.toNat_natCast]; exact carV_zero (by omega)⟩, ⟨rfl, rfl, rfl⟩, rfl, trivial⟩, ?_⟩
          repeat' first | exact True.intro | exact rfl | exact ⟨rfl, rfl⟩ | refine And.intro ?_ ?_
        · try dsimp only [Ty.T] at h3
          try simp only [castL_self] at h3
          try simp only [Int.toNat_natCast] at h3
          try simp only [Int.toNat_zero] at h3
          refine AWPD.exit ?_
          refine hK14 _ _ ?_
          clear hK14
          refine AWPD.seq fun K18 hK18 => ?_
          refine AWPD.seq fun K19 hK19 => ?_
          -- region 14
          refine AWPD.keep [0, 1, 7, 8, 9] rfl ?_
          refine AWPD.region tabOK rfl ?_
          refine hK19 _ _ ?_
          clear hK19
          first | refine AWPD.condP rfl (fun h4 => ?_) (fun h4 => ?_) | refine AWPD.condN rfl (fun h4 => ?_) (fun h4 => ?_) | refine AWPD.condAP rfl (fun h4 => ?_) (fun h4 => ?_) | refine AWPD.condOP rfl (fun h4 => ?_) (fun h4 => ?_) | refine AWPD.condONN rfl (fun h4 => ?_) (fun h4 => ?_) | refine AWPD.condOPN rfl (fun h4 => ?_) (fun h4 => ?_) | refine AWPD.condA rfl (fun h4 => ?_) (fun h4 => ?_) | refine AWPD.condO rfl (fun h4 => ?_) (fun h4 => ?_) | refine AWPD.cond rfl (fun h4 => ?_) (fun h4 => ?_)
          · try dsimp only [Ty.T] at h4
            try simp only [castL_self] at h4
            try simp only [Int.toNat_natCast] at h4
            try simp only [Int.toNat_zero] at h4
            have hi0 : i = 0 := by omega
            subst hi0
            have hend := last_tab N (by omega) c hc fun k hk => hv1 k hk (Nat.zero_le _)
            refine AWPD.seq fun K20 hK20 => ?_
            -- region 15
            refine AWPD.freeze 7 rfl rfl rfl ?_
            refine AWPD.freezeM (e := 3) (τ := .int) 7 2 (lowL t m N (c + 1)) rfl rfl rfl rfl ?_
            refine AWPD.keep [7] rfl ?_
            refine AWPD.region tabOK rfl ?_
            refine hK20 _ _ ?_
            clear hK20
            refine AWPD.ret (And.intro (.inl rfl) ?_)
            -- result 2
            exact ⟨fitS rfl (by unfold lowV; rw [if_pos hle, hN, ← hend]), fitE rfl hle.symm⟩
          · try dsimp only [Ty.T] at h4
            try simp only [castL_self] at h4
            try simp only [Int.toNat_natCast] at h4
            try simp only [Int.toNat_zero] at h4
            obtain ⟨q, rfl⟩ : ∃ q, i = q + 1 := ⟨i - 1, by omega⟩
            rw [show ((q + 1 : Nat) : Int) - 1 = (q : Int) by omega] at h3 ⊢
            rw [Int.toNat_natCast, car_digit (by omega)] at h3
            have hst := step_tab (n := N) (c := c) (i := q) (by omega) hc (by omega) (fun k hk hk2 => hv1 k hk (by omega)) (by omega)
            have hdg := car_digit (N := N) (c := c) (q := q) (by omega)
            have hst2 : (carV N c (q + 1)).set (Int.toNat (q : Int)) ((carV N c (q + 1)).getD (Int.toNat (q : Int)) 0 + 1) = vec N (c + 1) := by rw [Int.toNat_natCast, hdg]; exact hst.2
            refine AWPD.skip ?_
            refine hK18 _ _ ?_
            clear hK18
            -- region 16
            refine AWPD.keep [0, 1, 7, 8, 9] rfl ?_
            refine AWPD.region tabOK rfl ?_
            repeat refine And.intro (by first | exact fun h => h | exact fun _ => rfl | (intro h; rw [h]; rfl) | omega | (intros; (try dsimp only [Ty.T, Ty.size]); (try simp only [castL_self, Int.toNat_natCast, Int.toNat_zero, Int.toNat_one, true_and, List.length_append, List.length_set, List.length_drop, List.length_take, List.length_replicate, List.length_cons, List.length_nil, Nat.zero_add, Nat.mul_one]); omega) | decide | (intros; simp_all; done) | (intros; simp_all; omega)) ?_
            refine ⟨n0 - 1, (c + 1, hd2), [0, 1, 2], by omega, ⟨by omega, hst.1, hdl2⟩, ⟨by decide, rfl⟩, ⟨⟨rfl, rfl, hst2⟩, ⟨rfl, rfl, rfl⟩, rfl, trivial⟩, ?_⟩
            repeat' first | exact True.intro | exact rfl | exact ⟨rfl, rfl⟩ | refine And.intro ?_ ?_
      · try dsimp only [Ty.T] at h2
        try simp only [castL_self] at h2
        try simp only [Int.toNat_natCast] at h2
        try simp only [Int.toNat_zero] at h2
        have h2 : ¬(m ≤ (fewV t (vec N c) : Int) ∧ ((lowL t m N c).any fun l => belowB l (vec N c)) = false) := by simpa using h2
        refine AWPD.skip ?_
        refine hK11 _ _ ?_
        clear hK11
        refine AWPD.seq fun K21 hK21 => ?_
        -- region 10
        first
          | (refine AWPD.holeM 2 (.slice none 0 0) rfl ?_
             refine AWPD.absorb 4 2 3 hd.length (by decide) (by decide) (by decide) rfl rfl rfl (rows_dead hdl) (by simp) (flat_int _) fun x => ?_
             have e1 : (hd ++ [(.slice none 0 0 : Value)]).set hd.length x = hd ++ [x] := set_last _ _ _
             have e2 := (rows_snoc (v := vec N c) hdl).trans (congrArg (List.map rowI) (low_yes h2))
             refine AWPD.to [0, 4, 2] [(0, .sl (.sl .int) t), (1, .i m), (7, .ob 1), (8, .bp [.ob 0] 0)] [.row 3 .int (vec N c), .row 22 .val (hd ++ [x]), rowsO (hd ++ [x]) ((lowL t m N (c + 1)).map rowI)] rfl (by decide) ⟨⟨rfl, rfl, rfl⟩, ⟨rfl, rfl, e1⟩, (by show rowsC _ _ = rowsC _ _; rw [← e2, ← e1]; rfl), trivial⟩ ⟨⟨rfl, rfl⟩, rfl, rfl, ⟨rfl, rfl⟩, trivial⟩ ?_
             have hdl2 : (hd ++ [x]).length = (lowL t m N (c + 1)).length := by rw [← low_yes h2]; simp [hdl]
             revert hdl2
             generalize hd ++ [x] = hd2
             intro hdl2)
          | (rw [low_not h2]
             rw [low_not h2] at hdl
             obtain ⟨hd2, rfl⟩ : ∃ hd2, hd2 = hd := ⟨_, rfl⟩
             have hdl2 := hdl)
        refine AWPD.keep [0, 1, 7, 8] rfl ?_
        refine AWPD.region tabOK rfl ?_
        repeat refine And.intro (by first | exact fun h => h | exact fun _ => rfl | (intro h; rw [h]; rfl) | omega | (intros; (try dsimp only [Ty.T, Ty.size]); (try simp only [castL_self, Int.toNat_natCast, Int.toNat_zero, Int.toNat_one, true_and, List.length_append, List.length_set, List.length_drop, List.length_take, List.length_replicate, List.length_cons, List.length_nil, Nat.zero_add, Nat.mul_one]); omega) | decide | (intros; simp_all; done) | (intros; simp_all; omega)) ?_
        refine hK21 _ _ ?_
        clear hK21
        refine AWPD.seq fun K22 hK22 => ?_
        refine AWPD.block ?_
        -- LOOP 1 live [0, 1, 7, 8, 9] changed [9]
        refine AWPD.loopK (σ := Nat) [0, 1, 7, 8] (fun i base => (9, .i ((i : Int) - 1)) :: base) (fun i => [.row 3 .int (carV N c i), .row 22 .val hd2, rowsO hd2 ((lowL t m N (c + 1)).map rowI)]) (fun n i => n = i ∧ i ≤ N ∧ ∀ k, k < N → i ≤ k → c / 4 ^ (N - 1 - k) % 4 = 3) N N [0, 1, 2] rfl rfl (⟨rfl, Nat.le_refl _, fun k hk hk2 => by omega⟩) (by decide) ⟨⟨rfl, rfl, carV_all N c⟩, ⟨rfl, rfl, rfl⟩, rfl, trivial⟩ (by repeat' first | exact congrArg (fun q : Nat => (q : Int) - 1) (vec_len _ _) | exact True.intro | exact rfl | exact ⟨rfl, rfl⟩ | refine And.intro ?_ ?_) fun n1 i hI1 => ?_
        obtain ⟨hn1, hiN, hv1⟩ := hI1
        have hcl := carV_len N c i
        refine AWPD.seq fun K23 hK23 => ?_
        refine AWPD.seq fun K24 hK24 => ?_
        -- region 11
        refine AWPD.keep [0, 1, 7, 8, 9] rfl ?_
        refine AWPD.region tabOK rfl ?_
        repeat refine And.intro (by first | exact fun h => h | exact fun _ => rfl | (intro h; rw [h]; rfl) | omega | (intros; (try dsimp only [Ty.T, Ty.size]); (try simp only [castL_self, Int.toNat_natCast, Int.toNat_zero, Int.toNat_one, true_and, List.length_append, List.length_set, List.length_drop, List.length_take, List.length_replicate, List.length_cons, List.length_nil, Nat.zero_add, Nat.mul_one]); omega) | decide | (intros; simp_all; done) | (intros; simp_all; omega)) ?_
        refine hK24 _ _ ?_
        clear hK24
        first | refine AWPD.condP rfl (fun h3 => ?_) (fun h3 => ?_) | refine AWPD.condN rfl (fun h3 => ?_) (fun h3 => ?_) | refine AWPD.condAP rfl (fun h3 => ?_) (fun h3 => ?_) | refine AWPD.condOP rfl (fun h3 => ?_) (fun h3 => ?_) | refine AWPD.condONN rfl (fun h3 => ?_) (fun h3 => ?_) | refine AWPD.condOPN rfl (fun h3 => ?_) (fun h3 => ?_) | refine AWPD.condA rfl (fun h3 => ?_) (fun h3 => ?_) | refine AWPD.condO rfl (fun h3 => ?_) (fun h3 => ?_) | refine AWPD.cond rfl (fun h3 => ?_) (fun h3 => ?_)
        · try dsimp only [Ty.T] at h3
          try simp only [castL_self] at h3
          try simp only [Int.toNat_natCast] at h3
          try simp only [Int.toNat_zero] at h3
          obtain ⟨q, rfl⟩ : ∃ q, i = q + 1 := ⟨i - 1, by omega⟩
          rw [show ((q + 1 : Nat) : Int) - 1 = (q : Int) by omega] at h3 ⊢
          rw [Int.toNat_natCast, car_digit (by omega)] at h3
          have hv2 : ∀ k, k < N → q ≤ k → c / 4 ^ (N - 1 - k) % 4 = 3 := fun k hk hk2 => by
            rcases Nat.lt_or_ge q k with h | h
            · exact hv1 k hk h
            · rw [show k = q by omega]; omega
          refine AWPD.skip ?_
          refine hK23 _ _ ?_
          clear hK23
          refine AWPD.block ?_
          refine AWPD.seq fun K25 hK25 => ?_
          -- region 12
          refine AWPD.keep [0, 1, 7, 8, 9] rfl ?_
          refine AWPD.region tabOK rfl ?_
          repeat refine And.intro (by first | exact fun h => h | exact fun _ => rfl | (intro h; rw [h]; rfl) | omega | (intros; (try dsimp only [Ty.T, Ty.size]); (try simp only [castL_self, Int.toNat_natCast, Int.toNat_zero, Int.toNat_one, true_and, List.length_append, List.length_set, List.length_drop, List.length_take, List.length_replicate, List.length_cons, List.length_nil, Nat.zero_add, Nat.mul_one]); omega) | decide | (intros; simp_all; done) | (intros; simp_all; omega)) ?_
          refine hK25 _ _ ?_
          clear hK25
          -- region 13
          refine AWPD.keep [0, 1, 7, 8, 9] rfl ?_
          refine AWPD.region tabOK rfl ?_
          repeat refine And.intro (by first | exact fun h => h | exact fun _ => rfl | (intro h; rw [h]; rfl) | omega | (intros; (try dsimp only [Ty.T, Ty.size]); (try simp only [castL_self, Int.toNat_natCast, Int.toNat_zero, Int.toNat_one, true_and, List.length_append, List.length_set, List.length_drop, List.length_take, List.length_replicate, List.length_cons, List.length_nil, Nat.zero_add, Nat.mul_one]); omega) | decide | (intros; simp_all; done) | (intros; simp_all; omega)) ?_
          refine ⟨n1 - 1, q, [0, 1, 2], by omega, ⟨by omega, by omega, hv2⟩, ⟨by decide, rfl⟩, ⟨⟨rfl, rfl, by show (carV N c (q + 1)).set (Int.toNat (q : Int)) 0 = carV N c q; rw [Int.toNat_natCast]; exact carV_zero (by omega)⟩, ⟨rfl, rfl, rfl⟩, rfl, trivial⟩, ?_⟩
          repeat' first | exact True.intro | exact rfl | exact ⟨rfl, rfl⟩ | refine And.intro ?_ ?_
        · try dsimp only [Ty.T] at h3
          try simp only [castL_self] at h3
          try simp only [Int.toNat_natCast] at h3
          try simp only [Int.toNat_zero] at h3
          refine AWPD.exit ?_
          refine hK22 _ _ ?_
          clear hK22
          refine AWPD.seq fun K26 hK26 => ?_
          refine AWPD.seq fun K27 hK27 => ?_
          -- region 14
          refine AWPD.keep [0, 1, 7, 8, 9] rfl ?_
          refine AWPD.region tabOK rfl ?_
          refine hK27 _ _ ?_
          clear hK27
          first | refine AWPD.condP rfl (fun h4 => ?_) (fun h4 => ?_) | refine AWPD.condN rfl (fun h4 => ?_) (fun h4 => ?_) | refine AWPD.condAP rfl (fun h4 => ?_) (fun h4 => ?_) | refine AWPD.condOP rfl (fun h4 => ?_) (fun h4 => ?_) | refine AWPD.condONN rfl (fun h4 => ?_) (fun h4 => ?_) | refine AWPD.condOPN rfl (fun h4 => ?_) (fun h4 => ?_) | refine AWPD.condA rfl (fun h4 => ?_) (fun h4 => ?_) | refine AWPD.condO rfl (fun h4 => ?_) (fun h4 => ?_) | refine AWPD.cond rfl (fun h4 => ?_) (fun h4 => ?_)
          · try dsimp only [Ty.T] at h4
            try simp only [castL_self] at h4
            try simp only [Int.toNat_natCast] at h4
            try simp only [Int.toNat_zero] at h4
            have hi0 : i = 0 := by omega
            subst hi0
            have hend := last_tab N (by omega) c hc fun k hk => hv1 k hk (Nat.zero_le _)
            refine AWPD.seq fun K28 hK28 => ?_
            -- region 15
            refine AWPD.freeze 7 rfl rfl rfl ?_
            refine AWPD.freezeM (e := 3) (τ := .int) 7 2 (lowL t m N (c + 1)) rfl rfl rfl rfl ?_
            refine AWPD.keep [7] rfl ?_
            refine AWPD.region tabOK rfl ?_
            refine hK28 _ _ ?_
            clear hK28
            refine AWPD.ret (And.intro (.inl rfl) ?_)
            -- result 3
            exact ⟨fitS rfl (by unfold lowV; rw [if_pos hle, hN, ← hend]), fitE rfl hle.symm⟩
          · try dsimp only [Ty.T] at h4
            try simp only [castL_self] at h4
            try simp only [Int.toNat_natCast] at h4
            try simp only [Int.toNat_zero] at h4
            obtain ⟨q, rfl⟩ : ∃ q, i = q + 1 := ⟨i - 1, by omega⟩
            rw [show ((q + 1 : Nat) : Int) - 1 = (q : Int) by omega] at h3 ⊢
            rw [Int.toNat_natCast, car_digit (by omega)] at h3
            have hst := step_tab (n := N) (c := c) (i := q) (by omega) hc (by omega) (fun k hk hk2 => hv1 k hk (by omega)) (by omega)
            have hdg := car_digit (N := N) (c := c) (q := q) (by omega)
            have hst2 : (carV N c (q + 1)).set (Int.toNat (q : Int)) ((carV N c (q + 1)).getD (Int.toNat (q : Int)) 0 + 1) = vec N (c + 1) := by rw [Int.toNat_natCast, hdg]; exact hst.2
            refine AWPD.skip ?_
            refine hK26 _ _ ?_
            clear hK26
            -- region 16
            refine AWPD.keep [0, 1, 7, 8, 9] rfl ?_
            refine AWPD.region tabOK rfl ?_
            repeat refine And.intro (by first | exact fun h => h | exact fun _ => rfl | (intro h; rw [h]; rfl) | omega | (intros; (try dsimp only [Ty.T, Ty.size]); (try simp only [castL_self, Int.toNat_natCast, Int.toNat_zero, Int.toNat_one, true_and, List.length_append, List.length_set, List.length_drop, List.length_take, List.length_replicate, List.length_cons, List.length_nil, Nat.zero_add, Nat.mul_one]); omega) | decide | (intros; simp_all; done) | (intros; simp_all; omega)) ?_
            refine ⟨n0 - 1, (c + 1, hd2), [0, 1, 2], by omega, ⟨by omega, hst.1, hdl2⟩, ⟨by decide, rfl⟩, ⟨⟨rfl, rfl, hst2⟩, ⟨rfl, rfl, rfl⟩, rfl, trivial⟩, ?_⟩
            repeat' first | exact True.intro | exact rfl | exact ⟨rfl, rfl⟩ | refine And.intro ?_ ?_
end Go.Proofs.YtmeacgkhabnjlaaDoor
