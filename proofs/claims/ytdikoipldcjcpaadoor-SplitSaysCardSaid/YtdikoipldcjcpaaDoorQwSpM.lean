/-
  The law behind shares: of a polynomial with few numbers, mod a prime, as many shares say what it is at 0. No program is named here but for the functions that its walks tell.
-/
import Derived.Test.YtdikoipldcjcpaaDoorQwSpW
namespace Go.Proofs.YtdikoipldcjcpaaDoor
open Go Go.Qw
/-- f is, mod p, a polynomial of at most n numbers. -/
def Dg (p : Int) : Nat → (Int → Int) → Prop
  | 0, f => ∀ z, p ∣ f z
  | n + 1, f => ∃ c g, Dg p n g ∧ ∀ z, p ∣ f z - (c + z * g z)
theorem Dg.congr {p : Int} : ∀ {n : Nat} {f g : Int → Int}, (∀ z, p ∣ f z - g z) → Dg p n g → Dg p n f
  | 0, f, g, h, hg => fun z => by
    obtain ⟨a, ha⟩ := h z; obtain ⟨b, hb⟩ := hg z
    exact ⟨a + b, by grind⟩
  | n + 1, f, g, h, ⟨c, k, hk, he⟩ => ⟨c, k, hk, fun z => by
    obtain ⟨a, ha⟩ := h z; obtain ⟨b, hb⟩ := he z
    exact ⟨a + b, by grind⟩⟩
theorem Dg.zero {p : Int} : ∀ {n : Nat}, Dg p n fun _ => 0
  | 0 => fun _ => ⟨0, by simp⟩
  | n + 1 => ⟨0, _, Dg.zero (n := n), fun z => ⟨0, by simp⟩⟩
theorem Dg.up {p : Int} : ∀ {n : Nat} {f : Int → Int}, Dg p n f → Dg p (n + 1) f
  | 0, f, h => ⟨0, fun _ => 0, fun _ => ⟨0, by simp⟩, fun z => by simpa using h z⟩
  | n + 1, f, ⟨c, g, hg, he⟩ => ⟨c, g, hg.up, he⟩
theorem Dg.le {p : Int} {n m : Nat} {f : Int → Int} (h : Dg p n f) (hm : n ≤ m) : Dg p m f := by
  induction hm with
  | refl => exact h
  | step _ ih => exact ih.up
theorem Dg.add {p : Int} : ∀ {n : Nat} {f g : Int → Int}, Dg p n f → Dg p n g → Dg p n fun z => f z + g z
  | 0, f, g, h, hg => fun z => by
    obtain ⟨a, ha⟩ := h z; obtain ⟨b, hb⟩ := hg z
    exact ⟨a + b, by grind⟩
  | n + 1, f, g, ⟨c, k, hk, he⟩, ⟨c', k', hk', he'⟩ => ⟨c + c', _, hk.add hk', fun z => by
    obtain ⟨a, ha⟩ := he z; obtain ⟨b, hb⟩ := he' z
    exact ⟨a + b, by grind⟩⟩
theorem Dg.mulc {p : Int} (c : Int) : ∀ {n : Nat} {f : Int → Int}, Dg p n f → Dg p n fun z => c * f z
  | 0, f, h => fun z => by
    obtain ⟨a, ha⟩ := h z
    exact ⟨c * a, by grind⟩
  | n + 1, f, ⟨c', k, hk, he⟩ => ⟨c * c', _, hk.mulc c, fun z => by
    obtain ⟨a, ha⟩ := he z
    exact ⟨c * a, by grind⟩⟩
theorem Dg.const {p : Int} (c : Int) {n : Nat} : Dg p (n + 1) fun _ => c := ⟨c, _, Dg.zero, fun z => ⟨0, by simp⟩⟩
/-- Times z. -/
theorem Dg.mulz {p : Int} {n : Nat} {f : Int → Int} (h : Dg p n f) : Dg p (n + 1) fun z => z * f z := ⟨0, f, h, fun z => ⟨0, by simp⟩⟩
theorem Dg.lin {p : Int} {n : Nat} {f : Int → Int} (a b : Int) (h : Dg p n f) : Dg p (n + 1) fun z => (a + b * z) * f z := by
  refine Dg.congr (g := fun z => a * f z + b * (z * f z)) (fun z => ⟨0, by grind⟩) ((h.mulc a).up.add (h.mulz.mulc b))
/-- A value split off. -/
theorem Dg.root {p : Int} (x : Int) : ∀ {n : Nat} {f : Int → Int}, Dg p (n + 1) f → ∃ g, Dg p n g ∧ ∀ z, p ∣ f z - (f x + (z - x) * g z)
  | 0, f, ⟨c, g, hg, he⟩ => ⟨fun _ => 0, fun _ => ⟨0, by simp⟩, fun z => by
    obtain ⟨a, ha⟩ := he z; obtain ⟨b, hb⟩ := he x
    obtain ⟨u, hu⟩ := hg z; obtain ⟨v, hv⟩ := hg x
    exact ⟨a - b + z * u - x * v, by grind⟩⟩
  | n + 1, f, ⟨c, g, hg, he⟩ => by
    obtain ⟨k, hk, hke⟩ := hg.root x
    refine ⟨fun z => g x + z * k z, (Dg.const (g x)).add hk.mulz, fun z => ?_⟩
    obtain ⟨a, ha⟩ := he z; obtain ⟨b, hb⟩ := he x
    obtain ⟨u, hu⟩ := hke z
    exact ⟨a - b + z * u, by grind⟩
/-- NO MORE ROOTS THAN NUMBERS. -/
theorem Dg.none {p : Int} (hp : ∀ a b : Int, p ∣ a * b → p ∣ a ∨ p ∣ b) : ∀ {l : List Int} {f : Int → Int}, Dg p l.length f → (∀ x ∈ l, p ∣ f x) → l.Pairwise (fun x y => ¬p ∣ y - x) → ∀ z, p ∣ f z
  | [], f, h, _, _, z => h z
  | x :: l, f, h, hr, hd, z => by
    obtain ⟨g, hg, he⟩ := Dg.root x h
    obtain ⟨h1, h2⟩ := List.pairwise_cons.1 hd
    obtain ⟨b, hb⟩ := hr x (by simp)
    have hg0 := Dg.none hp hg (fun y hy => by
      obtain ⟨a, ha⟩ := hr y (by simp [hy])
      obtain ⟨c, hc⟩ := he y
      rcases hp (y - x) (g y) ⟨a - b - c, by grind⟩ with h | h
      · exact absurd h (h1 y hy)
      · exact h) h2 z
    obtain ⟨a, ha⟩ := he z
    obtain ⟨c, hc⟩ := hg0
    exact ⟨a + b + (z - x) * c, by grind⟩
/-- A modulus, as the code takes it. -/
def Pr (p : Int) : Prop := 2 ≤ p ∧ p ≤ 31 ∧ p.toNat ∈ primes
theorem inv_tab : (primes.all fun p => (List.range p).all fun a => a == 0 || decide ((a : Int) * powM p a (p - 2) % p = 1)) = true := by decide +kernel
theorem inv_ok {p : Int} (h : Pr p) {a : Int} (ha : ¬p ∣ a) : p ∣ a * powM p (a % p) (p - 2).toNat - 1 := by
  obtain ⟨h2, h31, hm⟩ := h
  have hi := mod_in (p := p) h2 a
  have e : ((p.toNat : Nat) : Int) = p := by omega
  have e2 : (((a % p).toNat : Nat) : Int) = a % p := by omega
  have h := List.all_eq_true.1 (List.all_eq_true.1 inv_tab _ hm) (a % p).toNat (List.mem_range.2 (by omega))
  simp only [Bool.or_eq_true, beq_iff_eq, decide_eq_true_eq, e, e2] at h
  rw [show p.toNat - 2 = (p - 2).toNat by omega] at h
  rcases h with h | h
  · exact absurd (Int.dvd_of_emod_eq_zero (by omega)) ha
  · have h3 : p ∣ a % p * powM p (a % p) (p - 2).toNat - 1 := ⟨a % p * powM p (a % p) (p - 2).toNat / p, by have := Int.emod_add_mul_ediv (a % p * powM p (a % p) (p - 2).toNat) p; grind⟩
    have h4 := Int.emod_add_mul_ediv a p
    obtain ⟨k, hk⟩ := h3
    exact ⟨k + a / p * powM p (a % p) (p - 2).toNat, by grind⟩
theorem pr_mul {p : Int} (h : Pr p) (a b : Int) (hab : p ∣ a * b) : p ∣ a ∨ p ∣ b := by
  by_cases ha : p ∣ a
  · exact .inl ha
  · obtain ⟨k, hk⟩ := inv_ok h ha
    obtain ⟨m, hm⟩ := hab
    exact .inr ⟨powM p (a % p) (p - 2).toNat * m - k * b, by grind⟩
theorem mod_dvd (p x : Int) : p ∣ x % p - x := ⟨-(x / p), by have := Int.emod_add_mul_ediv x p; grind⟩
theorem atV_dvd (p x : Int) : ∀ l : List Int, Dg p l.length fun x => atV p x l
  | [] => fun _ => ⟨0, by simp [atV]⟩
  | a :: l => ⟨a, _, atV_dvd p x l, fun z => by
    have : atV p z (a :: l) = (atV p z l * z + a) % p := rfl
    obtain ⟨k, hk⟩ := mod_dvd p (atV p z l * z + a)
    exact ⟨k, by grind⟩⟩

def termZ (p : Int) (l : List Sh) (z : Int) (i : Nat) : Nat → Int
  | 0 => (l.getD i (0, 0)).2
  | j + 1 => if i ≠ j then termZ p l z i j * ((l.getD j (0, 0)).1 - z) * powM p (((l.getD j (0, 0)).1 - (l.getD i (0, 0)).1) % p) (p - 2).toNat else termZ p l z i j
theorem termZ_dg (p : Int) (l : List Sh) (i : Nat) : ∀ j, Dg p (if j ≤ i then j + 1 else j) fun z => termZ p l z i j
  | 0 => by simp only [Nat.zero_le, if_true]; exact Dg.const _
  | j + 1 => by
    have ih := termZ_dg p l i j
    rcases Nat.lt_trichotomy i j with h | h | h
    · rw [if_neg (by omega)] at ih ⊢
      refine Dg.congr (fun z => ?_) ((ih.lin (l.getD j (0, 0)).1 (-1)).mulc (powM p (((l.getD j (0, 0)).1 - (l.getD i (0, 0)).1) % p) (p - 2).toNat))
      simp only [termZ]
      rw [if_pos (by omega)]
      exact ⟨0, by grind⟩
    · subst h
      rw [if_pos (Nat.le_refl _)] at ih
      rw [if_neg (by omega)]
      simpa only [termZ, ne_eq, not_true, if_false] using ih
    · rw [if_pos (by omega)] at ih
      rw [if_pos (by omega)]
      refine Dg.congr (fun z => ?_) ((ih.lin (l.getD j (0, 0)).1 (-1)).mulc (powM p (((l.getD j (0, 0)).1 - (l.getD i (0, 0)).1) % p) (p - 2).toNat))
      simp only [termZ]
      rw [if_pos (by omega)]
      exact ⟨0, by grind⟩
theorem termZ_other (p : Int) (l : List Sh) {i k : Nat} (hik : i ≠ k) : ∀ j, k < j → termZ p l (l.getD k (0, 0)).1 i j = 0
  | j + 1, h => by
    unfold termZ
    by_cases hj : j = k
    · subst hj
      rw [if_pos hik, Int.sub_self]; simp
    · have ih := termZ_other p l hik j (by omega)
      split
      · rw [ih]; simp
      · exact ih
theorem apart_dvd {p : Int} {l : List Sh} (g : GoodS p l) {i j : Nat} (hi : i < l.length) (hj : j < l.length) (hij : i ≠ j) : ¬p ∣ (l.getD j (0, 0)).1 - (l.getD i (0, 0)).1 := by
  have h1 := g.at_ i hi
  have h2 := g.at_ j hj
  have hne : (l.getD i (0, 0)).1 ≠ (l.getD j (0, 0)).1 := by
    intro e
    refine hij ((List.getElem_inj (h₀ := by simpa using hi) (h₁ := by simpa using hj) g.apart).1 ?_)
    simp only [List.getD, List.getElem?_eq_getElem hi, List.getElem?_eq_getElem hj, Option.getD_some] at e
    simpa using e
  rintro ⟨k, hk⟩
  have h0 : k ≠ 0 := fun e => by subst e; rw [Int.mul_zero] at hk; omega
  rcases Int.lt_or_gt_of_ne h0 with h | h
  · have := Int.mul_le_mul_of_nonneg_left (show k ≤ -1 by omega) (show 0 ≤ p by have := g.p2; omega)
    omega
  · have := Int.mul_le_mul_of_nonneg_left (show 1 ≤ k by omega) (show 0 ≤ p by have := g.p2; omega)
    omega
theorem termZ_own {p : Int} {l : List Sh} (g : GoodS p l) {i : Nat} (hi : i < l.length) : ∀ j, j ≤ l.length → p ∣ termZ p l (l.getD i (0, 0)).1 i j - (l.getD i (0, 0)).2
  | 0, _ => ⟨0, by simp [termZ]⟩
  | j + 1, h => by
    obtain ⟨k, hk⟩ := termZ_own g hi j (by omega)
    unfold termZ
    split
    · rename_i hij
      obtain ⟨m, hm⟩ := inv_ok ⟨g.p2, g.p31, g.prime⟩ (apart_dvd g hi (show j < l.length by omega) hij)
      exact ⟨k + m * termZ p l (l.getD i (0, 0)).1 i j, by grind⟩
    · exact ⟨k, hk⟩
theorem termV_Z {p : Int} (l : List Sh) (i : Nat) : ∀ j, p ∣ termV p l i j - termZ p l 0 i j
  | 0 => ⟨0, by simp [termV, termZ]⟩
  | j + 1 => by
    obtain ⟨k, hk⟩ := termV_Z (p := p) l i j
    unfold termV termZ
    by_cases h : i = j
    · subst h; simpa using ⟨k, hk⟩
    · rw [if_pos (by omega), if_pos h]
      rw [show ((l.getD j (0, 0)).1 - (l.getD i (0, 0)).1 + p) % p = ((l.getD j (0, 0)).1 - (l.getD i (0, 0)).1) % p by simp]
      generalize powM p (((l.getD j (0, 0)).1 - (l.getD i (0, 0)).1) % p) (p - 2).toNat = v
      obtain ⟨a, ha⟩ := mod_dvd p (termV p l i j * (l.getD j (0, 0)).1)
      obtain ⟨b, hb⟩ := mod_dvd p (termV p l i j * (l.getD j (0, 0)).1 % p * v)
      exact ⟨b + a * v + k * (l.getD j (0, 0)).1 * v, by grind⟩
def sumZ (p : Int) (l : List Sh) (z : Int) : Nat → Int
  | 0 => 0
  | i + 1 => sumZ p l z i + termZ p l z i l.length
theorem sumZ_dg (p : Int) (l : List Sh) : ∀ i, i ≤ l.length → Dg p l.length fun z => sumZ p l z i
  | 0, _ => Dg.zero
  | i + 1, h => (sumZ_dg p l i (by omega)).add (by have := termZ_dg p l i l.length; rwa [if_neg (by omega)] at this)
theorem sumZ_at {p : Int} {l : List Sh} (g : GoodS p l) {k : Nat} (hk : k < l.length) : ∀ i, i ≤ l.length → p ∣ sumZ p l (l.getD k (0, 0)).1 i - (if k < i then (l.getD k (0, 0)).2 else 0)
  | 0, _ => ⟨0, by simp [sumZ]⟩
  | i + 1, h => by
    obtain ⟨m, hm⟩ := sumZ_at g hk i (by omega)
    unfold sumZ
    by_cases hki : k = i
    · subst hki
      obtain ⟨n, hn⟩ := termZ_own g hk l.length (Nat.le_refl _)
      rw [if_neg (by omega)] at hm
      rw [if_pos (by omega)]
      exact ⟨m + n, by grind⟩
    · rw [termZ_other p l (Ne.symm hki) l.length hk]
      by_cases hlt : k < i
      · rw [if_pos hlt] at hm
        rw [if_pos (by omega)]
        exact ⟨m, by grind⟩
      · rw [if_neg hlt] at hm
        rw [if_neg (by omega)]
        exact ⟨m, by grind⟩
theorem sumV_Z {p : Int} (l : List Sh) : ∀ i, p ∣ sumV p l i - sumZ p l 0 i
  | 0 => ⟨0, by simp [sumV, sumZ]⟩
  | i + 1 => by
    obtain ⟨k, hk⟩ := sumV_Z (p := p) l i
    obtain ⟨m, hm⟩ := termV_Z (p := p) l i l.length
    obtain ⟨a, ha⟩ := mod_dvd p (sumV p l i + termV p l i l.length)
    unfold sumV sumZ
    exact ⟨k + m + a, by grind⟩
/-- WHAT IS JOINED IS WHAT THE POLYNOMIAL IS AT 0. -/
theorem joined_at {p : Int} {l : List Sh} (g : GoodS p l) {f : Int → Int} (hf : Dg p l.length f) (hv : ∀ i, i < l.length → p ∣ (l.getD i (0, 0)).2 - f (l.getD i (0, 0)).1) : p ∣ sumV p l l.length - f 0 := by
  have hD : Dg p l.length fun z => sumZ p l z l.length + -1 * f z := (sumZ_dg p l _ (Nat.le_refl _)).add (hf.mulc (-1))
  have hD' : Dg p (l.map (·.1)).length fun z => sumZ p l z l.length + -1 * f z := by rw [List.length_map]; exact hD
  have hz := Dg.none (pr_mul ⟨g.p2, g.p31, g.prime⟩) hD' (fun x hx => by
    obtain ⟨k, hk, rfl⟩ := List.mem_iff_getElem.1 hx
    rw [List.length_map] at hk
    have e : (l.map (·.1))[k]'(by simpa using hk) = (l.getD k (0, 0)).1 := by simp [List.getD, hk]
    rw [e]
    obtain ⟨a, ha⟩ := sumZ_at g hk l.length (Nat.le_refl _)
    obtain ⟨b, hb⟩ := hv k hk
    rw [if_pos hk] at ha
    exact ⟨a + b, by grind⟩) (List.pairwise_iff_getElem.2 fun i j hi hj hij => by
      rw [List.length_map] at hi hj
      have := apart_dvd g hi hj (by omega)
      simpa [List.getD, hi, hj] using this) 0
  obtain ⟨a, ha⟩ := hz
  obtain ⟨b, hb⟩ := sumV_Z (p := p) l l.length
  exact ⟨a + b, by grind⟩
theorem dvd_small {p a b : Int} (h : p ∣ a - b) (ha : 0 ≤ a ∧ a ≤ p - 1) (hb : 0 ≤ b ∧ b ≤ p - 1) : a = b := by
  obtain ⟨k, hk⟩ := h
  rcases Int.lt_trichotomy k 0 with h | h | h
  · have := Int.mul_le_mul_of_nonneg_left (show k ≤ -1 by omega) (show 0 ≤ p by omega)
    omega
  · subst h; omega
  · have := Int.mul_le_mul_of_nonneg_left (show 1 ≤ k by omega) (show 0 ≤ p by omega)
    omega

theorem scanSh_zero {p : Int} : ∀ (l : List Sh) (seen : List Int), (∀ s ∈ l, (1 ≤ s.1 ∧ s.1 ≤ p - 1) ∧ (0 ≤ s.2 ∧ s.2 ≤ p - 1)) → (∀ c ∈ seen, c ∉ l.map (·.1)) → (l.map (·.1)).Nodup → scanSh p seen l = 0
  | [], _, _, _, _ => rfl
  | c :: r, seen, h1, h2, h3 => by
    rw [List.map_cons] at h2 h3
    have h3' := List.nodup_cons.1 h3
    unfold scanSh
    rw [if_pos (h1 c (by simp)), if_neg fun h => h2 c.1 h (by simp)]
    refine scanSh_zero r _ (fun s hs => h1 s (by simp [hs])) (fun d hd hm => ?_) h3'.2
    rcases List.mem_append.1 hd with hd | hd
    · exact h2 d hd (by simp [hm])
    · rw [List.mem_singleton.1 hd] at hm
      exact h3'.1 hm
theorem sharesE_zero {p : Int} {l : List Sh} (hf : fieldE p = 0) (h0 : 0 < l.length) (h12 : l.length ≤ 12) (h1 : ∀ s ∈ l, (1 ≤ s.1 ∧ s.1 ≤ p - 1) ∧ (0 ≤ s.2 ∧ s.2 ≤ p - 1)) (h3 : (l.map (·.1)).Nodup) : sharesE p l = 0 := by
  unfold sharesE
  rw [if_neg (by omega), if_neg (by omega), if_neg (by omega)]
  exact scanSh_zero l [] h1 (by simp) h3
/-- WHAT IS JOINED, for any polynomial that has few numbers. -/
theorem join_at {p : Int} {l : List Sh} (hs : sharesE p l = 0) {f : Int → Int} (hf : Dg p l.length f) (hv : ∀ s ∈ l, p ∣ s.2 - f s.1) {c : Int} (hc : 0 ≤ c ∧ c ≤ p - 1) (h : p ∣ c - f 0) : joinV p l = c := by
  have g := shares_good hs
  unfold joinV
  rw [if_pos hs]
  obtain ⟨a, ha⟩ := joined_at g hf fun i hi => hv _ (getD_mem hi _)
  obtain ⟨b, hb⟩ := h
  exact dvd_small ⟨a - b, by grind⟩ (sumV_in g.p2 _) hc
structure GoodD (p secret : Int) (rest : List Int) (many : Int) : Prop where
  field : fieldE p = 0
  p2 : 2 ≤ p
  p31 : p ≤ 31
  sec : 0 ≤ secret ∧ secret ≤ p - 1
  few : rest.length < 12
  rest_ : ∀ x ∈ rest, 0 ≤ x ∧ x ≤ p - 1
  many_ : 0 ≤ many ∧ many ≤ 12 ∧ many ≤ p - 1
theorem deal_good {p secret : Int} {rest : List Int} {many : Int} (h : dealE p secret rest many = 0) : GoodD p secret rest many := by
  unfold dealE at h
  split at h
  · rename_i h1; exact absurd h h1
  · rename_i h1
    split at h
    · rename_i h2; exact absurd h h2
    · rename_i h2
      split at h
      · cases h
      · rename_i h3
        split at h
        · rename_i h4; exact absurd h h4
        · rename_i h4
          by_cases h5 : 0 ≤ many ∧ many ≤ (if p - 1 < 12 then p - 1 else 12)
          · have hf := fieldE_in (show fieldE p = 0 by omega)
            refine ⟨by omega, hf.1, hf.2.1, allE_in (show allE p [secret] = 0 by omega) _ (by simp), by omega, allE_in (by omega), ?_⟩
            split at h5 <;> omega
          · rw [if_neg h5] at h
            cases h
theorem dealL_ok {p secret : Int} {rest : List Int} {many : Int} (h : dealE p secret rest many = 0) : dealL p secret rest many = dealT p (secret :: rest) many.toNat := by
  unfold dealL; rw [if_pos h]
theorem dealL_no {p secret : Int} {rest : List Int} {many : Int} (h : dealE p secret rest many ≠ 0) : dealL p secret rest many = [] := by
  unfold dealL; rw [if_neg h]
theorem dealT_len (p : Int) (l : List Int) (k : Nat) : (dealT p l k).length = k := by simp [dealT]
theorem dealT_get (p : Int) (l : List Int) {k q : Nat} (h : q < k) : (dealT p l k).getD q (0, 0) = (((q : Int) + 1, atV p ((q : Int) + 1) l) : Sh) := by
  simp [dealT, List.getD, h]
theorem atV_zero (p a : Int) (l : List Int) (h : 0 ≤ a ∧ a ≤ p - 1) : atV p 0 (a :: l) = a := by
  have : atV p 0 (a :: l) = (atV p 0 l * 0 + a) % p := rfl
  rw [this, Int.mul_zero, Int.zero_add, Int.emod_eq_of_lt h.1 (by omega)]

/-- Some of the shares. -/
def pickS (b : Nat → Bool) (L : List Sh) : Nat → List Sh
  | 0 => []
  | k + 1 => if b k = true then pickS b L k ++ [L.getD k (0, 0)] else pickS b L k
theorem pickS_yes {b : Nat → Bool} {L : List Sh} {k : Nat} (h : b k = true) : pickS b L k ++ [L.getD k (0, 0)] = pickS b L (k + 1) := by rw [pickS, if_pos h]
theorem pickS_no {b : Nat → Bool} {L : List Sh} {k : Nat} (h : b k = false) : pickS b L k = pickS b L (k + 1) := by rw [pickS, if_neg (by rw [h]; decide)]
theorem pickS_mem {b : Nat → Bool} {L : List Sh} : ∀ {k : Nat} {s : Sh}, s ∈ pickS b L k → ∃ q, q < k ∧ s = L.getD q (0, 0)
  | k + 1, s, h => by
    unfold pickS at h
    split at h
    · rcases List.mem_append.1 h with h | h
      · obtain ⟨q, hq, e⟩ := pickS_mem h; exact ⟨q, by omega, e⟩
      · exact ⟨k, by omega, List.mem_singleton.1 h⟩
    · obtain ⟨q, hq, e⟩ := pickS_mem h; exact ⟨q, by omega, e⟩
theorem pickS_len {b : Nat → Bool} {L : List Sh} : ∀ k : Nat, (pickS b L k).length ≤ k
  | 0 => by simp [pickS]
  | k + 1 => by
    have := pickS_len (b := b) (L := L) k
    unfold pickS
    split
    · rw [List.length_append]; simp; omega
    · omega
theorem pickS_nodup {b : Nat → Bool} {L : List Sh} {n : Nat} (hL : ∀ q, q < n → (L.getD q (0, 0)).1 = (q : Int) + 1) : ∀ k : Nat, k ≤ n → ((pickS b L k).map (·.1)).Nodup
  | 0, _ => by simp [pickS]
  | k + 1, h => by
    have ih := pickS_nodup (b := b) hL k (by omega)
    unfold pickS
    split
    · rw [List.map_append, List.nodup_append]
      refine ⟨ih, by simp, fun x hx y hy e => ?_⟩
      subst e
      obtain ⟨s, hs, rfl⟩ := List.mem_map.1 hx
      obtain ⟨q, hq, rfl⟩ := pickS_mem hs
      simp only [List.map_cons, List.map_nil, List.mem_singleton] at hy
      rw [hL q (by omega), hL k (by omega)] at hy
      omega
    · exact ih
theorem pick_shares {p secret : Int} {rest : List Int} {many : Int} (h : dealE p secret rest many = 0) (b : Nat → Bool) {k : Nat} (hk : k ≤ many.toNat) (h0 : 0 < (pickS b (dealT p (secret :: rest) many.toNat) k).length) :
    sharesE p (pickS b (dealT p (secret :: rest) many.toNat) k) = 0 := by
  have g := deal_good h
  have hm := g.many_
  have hp2 := g.p2
  have hl := pickS_len (b := b) (L := dealT p (secret :: rest) many.toNat) k
  refine sharesE_zero g.field h0 (by omega) (fun s hs => ?_) (pickS_nodup (n := many.toNat) (fun q hq => by rw [dealT_get p _ hq]) k hk)
  obtain ⟨q, hq, rfl⟩ := pickS_mem hs
  rw [dealT_get p _ (by omega)]
  exact ⟨⟨by simp only; omega, by simp only; omega⟩, atV_in g.p2 _⟩
theorem pick_joins {p secret : Int} {rest : List Int} {many : Int} (h : dealE p secret rest many = 0) (b : Nat → Bool) {k : Nat} (hk : k ≤ many.toNat) (hn : rest.length < (pickS b (dealT p (secret :: rest) many.toNat) k).length) :
    joinV p (pickS b (dealT p (secret :: rest) many.toNat) k) = secret := by
  have g := deal_good h
  refine join_at (pick_shares h b hk (by omega)) (f := fun z => atV p z (secret :: rest)) ((atV_dvd p 0 (secret :: rest)).le (by simp only [List.length_cons]; omega)) (fun s hs => ?_) g.sec ⟨0, by rw [atV_zero p _ _ g.sec]; simp⟩
  obtain ⟨q, hq, rfl⟩ := pickS_mem hs
  rw [dealT_get p _ (by omega)]
  exact ⟨0, by simp⟩
/-- The sums of shares. -/
def bothS (p : Int) (L K : List Sh) (k : Nat) : List Sh := (List.range k).map fun q : Nat => (((L.getD q (0, 0)).1, ((L.getD q (0, 0)).2 + (K.getD q (0, 0)).2) % p) : Sh)
theorem bothS_step (p : Int) (L K : List Sh) (k : Nat) : bothS p L K k ++ [(((L.getD k (0, 0)).1, ((L.getD k (0, 0)).2 + (K.getD k (0, 0)).2) % p) : Sh)] = bothS p L K (k + 1) := by
  unfold bothS
  rw [List.range_succ, List.map_append]; rfl
theorem bothS_len (p : Int) (L K : List Sh) (k : Nat) : (bothS p L K k).length = k := by simp [bothS]
theorem both_joins {p a b : Int} {x y : List Int} {many : Int} (h1 : dealE p a x many = 0) (h2 : dealE p b y many = 0) (hxy : x.length = y.length) (hn : (x.length : Int) < many) :
    sharesE p (bothS p (dealT p (a :: x) many.toNat) (dealT p (b :: y) many.toNat) many.toNat) = 0 ∧ joinV p (bothS p (dealT p (a :: x) many.toNat) (dealT p (b :: y) many.toNat) many.toNat) = (a + b) % p := by
  have g1 := deal_good h1
  have g2 := deal_good h2
  have hm := g1.many_
  have hp2 := g1.p2
  have hs : sharesE p (bothS p (dealT p (a :: x) many.toNat) (dealT p (b :: y) many.toNat) many.toNat) = 0 := by
    refine sharesE_zero g1.field (by rw [bothS_len]; omega) (by rw [bothS_len]; omega) (fun s hs => ?_) ?_
    · obtain ⟨q, hq, rfl⟩ := List.mem_map.1 hs
      rw [List.mem_range] at hq
      rw [dealT_get p _ hq]
      exact ⟨⟨by simp only; omega, by simp only; omega⟩, mod_in g1.p2 _⟩
    · unfold bothS
      rw [List.map_map, List.nodup_iff_pairwise_ne, List.pairwise_map]
      refine List.pairwise_iff_getElem.2 fun i j hi hj hij => ?_
      rw [List.length_range] at hi hj
      simp only [List.getElem_range, Function.comp]
      rw [dealT_get p _ hi, dealT_get p _ hj]
      simp only
      omega
  refine ⟨hs, join_at hs (f := fun z => atV p z (a :: x) + atV p z (b :: y)) (((atV_dvd p 0 (a :: x)).le ?_).add ((atV_dvd p 0 (b :: y)).le ?_)) (fun s hs => ?_) (mod_in g1.p2 _) ?_⟩
  · rw [bothS_len]; simp only [List.length_cons]; omega
  · rw [bothS_len]; simp only [List.length_cons]; omega
  · obtain ⟨q, hq, rfl⟩ := List.mem_map.1 hs
    rw [List.mem_range] at hq
    rw [dealT_get p _ hq, dealT_get p _ hq]
    exact mod_dvd p _
  · rw [atV_zero p _ _ g1.sec, atV_zero p _ _ g2.sec]
    exact mod_dvd p _
end Go.Proofs.YtdikoipldcjcpaaDoor
