/-
  WALKS of the document's answers on shares: a modulus, shares dealt, what is wrong with some, Neville's table, what is left. Laid by a program of mine out of the operations, with the loops and results told by hand.
-/
import Derived.Test.YtdikoipldcjcpaaDoorQwHi
namespace Go.Proofs.YtdikoipldcjcpaaDoor
open Go Go.Qw
set_option maxRecDepth 10000
set_option linter.unusedSimpArgs false
set_option linter.unusedVariables false
set_option linter.unusedSectionVars false

theorem all_zero {p : Int} {l : List Sh} (g : GoodS p l) {h : Int → Int} (hD : Dg p l.length h) (hz : ∀ i, i < l.length → p ∣ h (l.getD i (0, 0)).1) (z : Int) : p ∣ h z := by
  have hD' : Dg p (l.map (·.1)).length h := by rw [List.length_map]; exact hD
  exact Dg.none (pr_mul ⟨g.p2, g.p31, g.prime⟩) hD' (fun x hx => by
    obtain ⟨k, hk, rfl⟩ := List.mem_iff_getElem.1 hx
    rw [List.length_map] at hk
    have e : (l.map (·.1))[k]'(by simpa using hk) = (l.getD k (0, 0)).1 := by simp [List.getD, hk]
    rw [e]
    exact hz k hk) (List.pairwise_iff_getElem.2 fun i j hi hj hij => by
      rw [List.length_map] at hi hj
      have := apart_dvd g hi hj (by omega)
      simpa [List.getD, hi, hj] using this) z
theorem same_at {p : Int} {l : List Sh} (g : GoodS p l) {f : Int → Int} (hf : Dg p l.length f) (hv : ∀ i, i < l.length → p ∣ (l.getD i (0, 0)).2 - f (l.getD i (0, 0)).1) (z : Int) : p ∣ sumZ p l z l.length - f z := by
  have hD : Dg p l.length fun z => sumZ p l z l.length + -1 * f z := (sumZ_dg p l _ (Nat.le_refl _)).add (hf.mulc (-1))
  obtain ⟨a, ha⟩ := all_zero g hD (fun k hk => by
    obtain ⟨a, ha⟩ := sumZ_at g hk l.length (Nat.le_refl _)
    obtain ⟨b, hb⟩ := hv k hk
    rw [if_pos hk] at ha
    exact ⟨a + b, by grind⟩) z
  exact ⟨a, by grind⟩
def nevV (p : Int) (l : List Sh) (x : Int) : Int := sumZ p l x l.length % p
theorem nevV_in {p : Int} (hp : 2 ≤ p) (l : List Sh) (x : Int) : 0 ≤ nevV p l x ∧ nevV p l x ≤ p - 1 := mod_in hp _
theorem nevV_dvd (p : Int) (l : List Sh) (x : Int) : p ∣ nevV p l x - sumZ p l x l.length := mod_dvd p _
theorem GoodS.mem {p : Int} {l : List Sh} (g : GoodS p l) {s : Sh} (hs : s ∈ l) : (1 ≤ s.1 ∧ s.1 ≤ p - 1) ∧ (0 ≤ s.2 ∧ s.2 ≤ p - 1) := by
  obtain ⟨i, hi, rfl⟩ := List.getElem_of_mem hs
  have h1 := g.at_ i hi
  have h2 := g.is_ i hi
  rw [show l.getD i (0, 0) = l[i] by simp [List.getD, hi]] at h1 h2
  exact ⟨h1, h2⟩
theorem GoodS.sub {p : Int} {l K : List Sh} (g : GoodS p l) (hs : K.Sublist l) (h0 : 0 < K.length) : GoodS p K :=
  ⟨g.p2, g.p31, g.prime, h0, Nat.le_trans hs.length_le g.few, fun _ hi => (g.mem (hs.subset (getD_mem hi (0, 0)))).1, fun _ hi => (g.mem (hs.subset (getD_mem hi (0, 0)))).2, (hs.map _).nodup g.apart⟩
theorem nev_one {p : Int} {l : List Sh} (g : GoodS p l) (h1 : l.length = 1) (x : Int) : nevV p l x = (l.getD 0 (0, 0)).2 := by
  refine dvd_small (p := p) ?_ (nevV_in g.p2 l x) (g.is_ 0 (by omega))
  obtain ⟨a, ha⟩ := nevV_dvd p l x
  have hD : Dg p l.length fun _ => (l.getD 0 (0, 0)).2 := by rw [h1]; exact Dg.const _
  obtain ⟨b, hb⟩ := same_at g hD (fun i hi => ⟨0, by rw [show i = 0 by omega]; simp⟩) x
  exact ⟨a + b, by grind⟩
theorem nev_val {p : Int} {l : List Sh} (g : GoodS p l) {k : Nat} (hk : k < l.length) : p ∣ sumZ p l (l.getD k (0, 0)).1 l.length - (l.getD k (0, 0)).2 := by
  have := sumZ_at g hk l.length (Nat.le_refl _)
  rwa [if_pos hk] at this
/-- NEVILLE. -/
theorem nev_step {p : Int} {l : List Sh} (g : GoodS p l) (h2 : 2 ≤ l.length) (x : Int) :
    p ∣ (x - (l.getD 0 (0, 0)).1) * nevV p (l.drop 1) x - (x - (l.getD (l.length - 1) (0, 0)).1) * nevV p (l.take (l.length - 1)) x - ((l.getD (l.length - 1) (0, 0)).1 - (l.getD 0 (0, 0)).1) * nevV p l x := by
  have lR : (l.drop 1).length = l.length - 1 := by simp
  have lL : (l.take (l.length - 1)).length = l.length - 1 := by rw [List.length_take]; omega
  have gR : GoodS p (l.drop 1) := g.sub (List.drop_sublist _ _) (by omega)
  have gL : GoodS p (l.take (l.length - 1)) := g.sub (List.take_sublist _ _) (by omega)
  have dR := (sumZ_dg p (l.drop 1) _ (Nat.le_refl _)).lin (-(l.getD 0 (0, 0)).1) 1
  have dL := (sumZ_dg p (l.take (l.length - 1)) _ (Nat.le_refl _)).lin (l.getD (l.length - 1) (0, 0)).1 (-1)
  have dS := (sumZ_dg p l _ (Nat.le_refl _)).mulc (-((l.getD (l.length - 1) (0, 0)).1 - (l.getD 0 (0, 0)).1))
  rw [lR, show l.length - 1 + 1 = l.length by omega] at dR
  rw [lL, show l.length - 1 + 1 = l.length by omega] at dL
  obtain ⟨u, hu⟩ := all_zero g ((dR.add dL).add dS) (fun k hk => by
    obtain ⟨m3, e3⟩ := nev_val g hk
    have vR : 1 ≤ k → p ∣ sumZ p (l.drop 1) (l.getD k (0, 0)).1 (l.length - 1) - (l.getD k (0, 0)).2 := fun h => by
      have := nev_val gR (k := k - 1) (by omega)
      rw [lR] at this
      have e : (l.drop 1).getD (k - 1) (0, 0) = l.getD k (0, 0) := by rw [drop_getD, show 1 + (k - 1) = k by omega]
      rwa [e] at this
    have vL : k < l.length - 1 → p ∣ sumZ p (l.take (l.length - 1)) (l.getD k (0, 0)).1 (l.length - 1) - (l.getD k (0, 0)).2 := fun h => by
      have := nev_val gL (k := k) (by omega)
      rw [lL] at this
      have e : (l.take (l.length - 1)).getD k (0, 0) = l.getD k (0, 0) := take_getD h _
      rwa [e] at this
    by_cases h0 : k = 0
    · subst h0
      obtain ⟨m2, e2⟩ := vL (by omega)
      exact ⟨((l.getD (l.length - 1) (0, 0)).1 - (l.getD 0 (0, 0)).1) * (m2 - m3), by grind⟩
    · by_cases hn : k = l.length - 1
      · obtain ⟨m1, e1⟩ := vR (by omega)
        rw [← hn]
        exact ⟨((l.getD k (0, 0)).1 - (l.getD 0 (0, 0)).1) * (m1 - m3), by grind⟩
      · obtain ⟨m1, e1⟩ := vR (by omega)
        obtain ⟨m2, e2⟩ := vL (by omega)
        exact ⟨((l.getD k (0, 0)).1 - (l.getD 0 (0, 0)).1) * m1 - ((l.getD k (0, 0)).1 - (l.getD (l.length - 1) (0, 0)).1) * m2 - ((l.getD (l.length - 1) (0, 0)).1 - (l.getD 0 (0, 0)).1) * m3, by grind⟩) x
  obtain ⟨a1, b1⟩ := nevV_dvd p (l.drop 1) x
  obtain ⟨a2, b2⟩ := nevV_dvd p (l.take (l.length - 1)) x
  obtain ⟨a3, b3⟩ := nevV_dvd p l x
  rw [lR] at b1
  rw [lL] at b2
  exact ⟨u + (x - (l.getD 0 (0, 0)).1) * a1 - (x - (l.getD (l.length - 1) (0, 0)).1) * a2 - ((l.getD (l.length - 1) (0, 0)).1 - (l.getD 0 (0, 0)).1) * a3, by grind⟩
theorem tmod_in {a p : Int} (hp : 2 ≤ p) : -p < a.tmod p ∧ a.tmod p < p ∧ p ∣ a.tmod p - a := by
  refine ⟨Int.lt_tmod_of_pos _ (by omega), Int.tmod_lt_of_pos _ (by omega), ⟨-(a.tdiv p), ?_⟩⟩
  have := Int.tmod_add_mul_tdiv a p
  grind
/-- A fraction is told by what it is. -/
structure Frac (p a b v : Int) : Prop where
  in_ : 0 ≤ v ∧ v ≤ p - 1
  is_ : p ∣ v * b - a
  uniq : ∀ y, 0 ≤ y → y ≤ p - 1 → p ∣ y * b - a → y = v
theorem nev_frac {p : Int} {l : List Sh} (g : GoodS p l) (h2 : 2 ≤ l.length) {x a b : Int} (ha : p ∣ a - ((x - (l.getD 0 (0, 0)).1) * nevV p (l.drop 1) x - (x - (l.getD (l.length - 1) (0, 0)).1) * nevV p (l.take (l.length - 1)) x)) (hb : p ∣ b - ((l.getD (l.length - 1) (0, 0)).1 - (l.getD 0 (0, 0)).1)) :
    Frac p a b (nevV p l x) := by
  obtain ⟨u, hu⟩ := nev_step g h2 x
  obtain ⟨m, hm⟩ := ha
  obtain ⟨n, hn⟩ := hb
  have his : p ∣ nevV p l x * b - a := ⟨n * nevV p l x - m - u, by grind⟩
  refine ⟨nevV_in g.p2 l x, his, fun y h0 h1 hy => ?_⟩
  obtain ⟨c, hc⟩ := his
  obtain ⟨e, he⟩ := hy
  have hne := apart_dvd g (i := 0) (j := l.length - 1) (by omega) (by omega) (by omega)
  rcases pr_mul ⟨g.p2, g.p31, g.prime⟩ (y - nevV p l x) b ⟨e - c, by grind⟩ with h | ⟨k, hk⟩
  · exact dvd_small h ⟨h0, h1⟩ (nevV_in g.p2 l x)
  · exact absurd ⟨k - n, by grind⟩ hne
theorem nev_join {p : Int} {l : List Sh} (hs : sharesE p l = 0) : joinV p l = nevV p l 0 := by
  have g := shares_good hs
  unfold joinV
  rw [if_pos hs]
  refine dvd_small (p := p) ?_ (sumV_in g.p2 _) (nevV_in g.p2 l 0)
  obtain ⟨a, ha⟩ := sumV_Z (p := p) l l.length
  obtain ⟨b, hb⟩ := nevV_dvd p l 0
  exact ⟨a - b, by grind⟩
/-- Another one goes with them just if it is what they say. -/
theorem nev_other {p : Int} {l : List Sh} (g : GoodS p l) (hf : fieldE p = 0) {n j : Nat} (h0 : 0 < n) (hn : n ≤ l.length) (hj : n + j < l.length) :
    joinV p (otherS l n (l.getD (n + j) (0, 0))) = joinV p (l.take n) ↔ nevV p (l.take n) (l.getD (n + j) (0, 0)).1 = (l.getD (n + j) (0, 0)).2 := by
  have hso := other_good g hf h0 hn hj
  have hst := take_good g hf h0 hn
  have go := shares_good hso
  have gt := shares_good hst
  have lt : (l.take n).length = n := by rw [List.length_take]; omega
  have lo : (otherS l n (l.getD (n + j) (0, 0))).length = n := by
    unfold otherS
    rw [List.length_append, List.length_drop, lt, List.length_singleton]; omega
  have eo : ∀ i, 0 < i → i < n → (otherS l n (l.getD (n + j) (0, 0))).getD i (0, 0) = (l.take n).getD i (0, 0) := fun i hi1 hi2 => by
    obtain ⟨k, rfl⟩ : ∃ k, i = k + 1 := ⟨i - 1, by omega⟩
    show ((l.take n).drop 1).getD k (0, 0) = _
    rw [drop_getD, Nat.add_comm]
  have e0 : (otherS l n (l.getD (n + j) (0, 0))).getD 0 (0, 0) = l.getD (n + j) (0, 0) := rfl
  have dT := sumZ_dg p (l.take n) _ (Nat.le_refl _)
  rw [lt] at dT
  have his := g.is_ (n + j) hj
  have hat := g.at_ (n + j) hj
  rw [nev_join hso, nev_join hst]
  constructor
  · intro h
    have dO := sumZ_dg p (otherS l n (l.getD (n + j) (0, 0))) _ (Nat.le_refl _)
    rw [lo] at dO
    have dH : Dg p n fun z => sumZ p (otherS l n (l.getD (n + j) (0, 0))) z n + -1 * sumZ p (l.take n) z n := dO.add (dT.mulc (-1))
    have hpt : ∀ x ∈ 0 :: ((l.take n).drop 1).map (·.1), p ∣ sumZ p (otherS l n (l.getD (n + j) (0, 0))) x n + -1 * sumZ p (l.take n) x n := fun x hx => by
      rcases List.mem_cons.1 hx with rfl | hx
      · obtain ⟨a, ha⟩ := nevV_dvd p (otherS l n (l.getD (n + j) (0, 0))) 0
        obtain ⟨b, hb⟩ := nevV_dvd p (l.take n) 0
        rw [lo] at ha
        rw [lt] at hb
        exact ⟨b - a, by grind⟩
      · obtain ⟨s, hs, rfl⟩ := List.mem_map.1 hx
        obtain ⟨i, hi, rfl⟩ := List.getElem_of_mem hs
        rw [List.length_drop, lt] at hi
        have es : ((l.take n).drop 1)[i]'(by rw [List.length_drop, lt]; exact hi) = (l.take n).getD (i + 1) (0, 0) := by
          have h9 : ((l.take n).drop 1)[i]'(by rw [List.length_drop, lt]; exact hi) = ((l.take n).drop 1).getD i (0, 0) := by
            rw [List.getD, List.getElem?_eq_getElem]; rfl
          rw [h9, drop_getD, Nat.add_comm]
        rw [es]
        obtain ⟨a, ha⟩ := nev_val gt (k := i + 1) (by omega)
        obtain ⟨b, hb⟩ := nev_val go (k := i + 1) (by omega)
        rw [eo (i + 1) (by omega) (by omega), lo] at hb
        rw [lt] at ha
        exact ⟨b - a, by grind⟩
    have hpw : (0 :: ((l.take n).drop 1).map (·.1)).Pairwise (fun x y => ¬p ∣ y - x) := by
      refine List.pairwise_cons.2 ⟨fun y hy hd => ?_, ?_⟩
      · obtain ⟨s, hs, rfl⟩ := List.mem_map.1 hy
        have hm := gt.mem ((List.drop_sublist _ _).subset hs)
        have := dvd_small (p := p) (a := s.1) (b := 0) (by simpa using hd) ⟨by omega, by omega⟩ ⟨by omega, by have := g.p2; omega⟩
        omega
      · refine List.pairwise_iff_getElem.2 fun i k hi hk hik => ?_
        rw [List.length_map, List.length_drop, lt] at hi hk
        have := apart_dvd gt (i := i + 1) (j := k + 1) (by omega) (by omega) (by omega)
        have hg : ∀ q (hq : q < (((l.take n).drop 1).map (·.1)).length), (((l.take n).drop 1).map (·.1))[q] = ((l.take n).getD (q + 1) (0, 0)).1 := fun q hq => by
          rw [List.length_map] at hq
          rw [List.getElem_map]
          have h9 : ((l.take n).drop 1)[q] = ((l.take n).drop 1).getD q (0, 0) := by
            rw [List.getD, List.getElem?_eq_getElem hq]; rfl
          rw [h9, drop_getD, Nat.add_comm]
        rw [hg, hg]
        exact this
    have hln : (0 :: ((l.take n).drop 1).map (·.1)).length = n := by
      rw [List.length_cons, List.length_map, List.length_drop, lt]; omega
    have hall := Dg.none (pr_mul ⟨g.p2, g.p31, g.prime⟩) (by rw [hln]; exact dH) hpt hpw (l.getD (n + j) (0, 0)).1
    refine dvd_small (p := p) ?_ (nevV_in g.p2 _ _) his
    obtain ⟨a, ha⟩ := hall
    obtain ⟨b, hb⟩ := nev_val go (k := 0) (by omega)
    rw [e0, lo] at hb
    obtain ⟨c, hc⟩ := nevV_dvd p (l.take n) (l.getD (n + j) (0, 0)).1
    rw [lt] at hc
    exact ⟨c - a + b, by grind⟩
  · intro h
    have dT' : Dg p (otherS l n (l.getD (n + j) (0, 0))).length fun z => sumZ p (l.take n) z n := by rw [lo]; exact dT
    obtain ⟨a, ha⟩ := same_at go dT' (fun i hi => by
      rw [lo] at hi
      by_cases hi0 : i = 0
      · subst hi0
        rw [e0]
        obtain ⟨c, hc⟩ := nevV_dvd p (l.take n) (l.getD (n + j) (0, 0)).1
        rw [lt] at hc
        exact ⟨c, by grind⟩
      · rw [eo i (by omega) hi]
        obtain ⟨b, hb⟩ := nev_val gt (k := i) (by omega)
        rw [lt] at hb
        exact ⟨-b, by grind⟩) 0
    refine dvd_small (p := p) ?_ (nevV_in g.p2 _ _) (nevV_in g.p2 _ _)
    obtain ⟨b, hb⟩ := nevV_dvd p (otherS l n (l.getD (n + j) (0, 0))) 0
    obtain ⟨c, hc⟩ := nevV_dvd p (l.take n) 0
    rw [lt] at hc
    exact ⟨a + b - c, by grind⟩
/-! ### The document's way to deal -/
def pwV (p x : Int) : Nat → Int
  | 0 => 1
  | i + 1 => pwV p x i * x % p
def docV (p x s : Int) (rest : List Int) : Nat → Int
  | 0 => s
  | i + 1 => (docV p x s rest i + rest.getD i 0 * pwV p x (i + 1)) % p
def polyZ (x : Int) (l : List Int) : Int := l.foldr (fun a n => n * x + a) 0
theorem atV_poly (p x : Int) : ∀ l : List Int, p ∣ atV p x l - polyZ x l
  | [] => ⟨0, by simp [atV, polyZ]⟩
  | a :: l => by
    obtain ⟨k, hk⟩ := atV_poly p x l
    obtain ⟨m, hm⟩ := mod_dvd p (atV p x l * x + a)
    refine ⟨m + k * x, ?_⟩
    show (atV p x l * x + a) % p - (polyZ x l * x + a) = _
    grind
theorem poly_app (x c : Int) : ∀ l : List Int, polyZ x (l ++ [c]) = polyZ x l + c * x ^ l.length
  | [] => by simp [polyZ]
  | a :: l => by
    have ih := poly_app x c l
    show polyZ x (l ++ [c]) * x + a = polyZ x l * x + a + c * x ^ (l.length + 1)
    rw [ih, Int.pow_succ]
    grind
theorem pwV_dvd (p x : Int) : ∀ i, p ∣ pwV p x i - x ^ i
  | 0 => ⟨0, by simp [pwV]⟩
  | i + 1 => by
    obtain ⟨k, hk⟩ := pwV_dvd p x i
    obtain ⟨m, hm⟩ := mod_dvd p (pwV p x i * x)
    rw [pwV, Int.pow_succ]
    exact ⟨m + k * x, by grind⟩
theorem docV_dvd (p x s : Int) (rest : List Int) : ∀ i, i ≤ rest.length → p ∣ docV p x s rest i - polyZ x (s :: rest.take i)
  | 0, _ => ⟨0, by simp [docV, polyZ]⟩
  | i + 1, hi => by
    obtain ⟨k, hk⟩ := docV_dvd p x s rest i (by omega)
    obtain ⟨m, hm⟩ := mod_dvd p (docV p x s rest i + rest.getD i 0 * pwV p x (i + 1))
    obtain ⟨n, hn⟩ := pwV_dvd p x (i + 1)
    have e : s :: rest.take (i + 1) = (s :: rest.take i) ++ [rest.getD i 0] := by
      rw [take_snoc (by omega) (0 : Int)]; rfl
    have hl : (s :: rest.take i).length = i + 1 := by rw [List.length_cons, List.length_take]; omega
    rw [e, poly_app, hl, docV]
    exact ⟨m + k + rest.getD i 0 * n, by grind⟩
theorem docV_in {p x s : Int} {rest : List Int} (hp : 2 ≤ p) (hs : 0 ≤ s ∧ s ≤ p - 1) : ∀ i, 0 ≤ docV p x s rest i ∧ docV p x s rest i ≤ p - 1
  | 0 => hs
  | i + 1 => mod_in hp _
theorem pwV_in {p x : Int} (hp : 2 ≤ p) : ∀ i, 0 ≤ pwV p x i ∧ pwV p x i ≤ p - 1
  | 0 => by unfold pwV; omega
  | i + 1 => mod_in hp _
theorem docV_all {p x s : Int} {rest : List Int} (hp : 2 ≤ p) (hs : 0 ≤ s ∧ s ≤ p - 1) : docV p x s rest rest.length = atV p x (s :: rest) := by
  refine dvd_small (p := p) ?_ (docV_in hp hs _) (atV_in hp _)
  obtain ⟨a, ha⟩ := docV_dvd p x s rest rest.length (Nat.le_refl _)
  obtain ⟨b, hb⟩ := atV_poly p x (s :: rest)
  rw [List.take_length] at ha
  exact ⟨a - b, by grind⟩
theorem field_tab0 : ((List.range 32).all fun p => decide (p < 2) || (((List.range p).all fun a => decide (a < 2) || ((List.range p).all fun b => decide (b < 2) || decide (a * b ≠ p))) == primes.contains p)) = true := by decide +kernel
theorem field_tab (p : Nat) (hp : p < 32) (h2 : 2 ≤ p) : (∀ a, a < p → 2 ≤ a → ∀ b, b < p → 2 ≤ b → a * b ≠ p) ↔ p ∈ primes := by
  have h := List.all_eq_true.1 field_tab0 p (List.mem_range.2 hp)
  rw [decide_eq_false (show ¬p < 2 by omega), Bool.false_or, beq_iff_eq] at h
  have e : p ∈ primes ↔ primes.contains p = true := by simp
  rw [e, ← h, List.all_eq_true]
  constructor
  · intro hh a ha
    have ha := List.mem_range.1 ha
    by_cases h1 : a < 2
    · rw [decide_eq_true h1]; rfl
    · rw [decide_eq_false h1, Bool.false_or, List.all_eq_true]
      intro b hb
      have hb := List.mem_range.1 hb
      by_cases h3 : b < 2
      · rw [decide_eq_true h3]; rfl
      · rw [decide_eq_false h3, Bool.false_or, decide_eq_true_eq]
        exact hh a ha (by omega) b hb (by omega)
  · intro hh a ha h1 b hb h3
    have h4 := hh a (List.mem_range.2 ha)
    rw [decide_eq_false (by omega), Bool.false_or, List.all_eq_true] at h4
    have h5 := h4 b (List.mem_range.2 hb)
    rwa [decide_eq_false (by omega), Bool.false_or, decide_eq_true_eq] at h5


section
variable {P : Program} {C : Ctx} {tb : Tab} {fr : DF} {H : List OD} {x y : Operand} {xT yT : TypeId} {d : Option Nat} {t : TypeId} {p : String} {af : Array Edge} {g : Option (Nat × Bool)}
theorem rem_step {a b : Int} (hx : evS tb.E fr x = some (.i a)) (hy : evS tb.E fr y = some (.u (.int .i64 b))) (h : b ≠ 0) : StepD P C tb fr ⟨d, .binOp .rem xT x y yT, t, p, af, g⟩ H (.i (a.tmod b)) H := fun _ hρ => VStep.remW (hρ.1 _ _ hx) (hρ.1 _ _ hy) h
theorem same_av {Q : Exit → DF → List OD → Prop} {c : Code} (u : Nat) {d0 d1 : DV} (hl : lookD fr u = some d0) (he : d0.av = d1.av) (h : AWPD P C c Q ((u, d1) :: fr) H) : AWPD P C c Q fr H :=
  AWP.conv (s' := ⟨frA ((u, d1) :: fr), H.map OD.ob⟩) (fun _ _ _ ⟨V, F, m, hd, hsz, hf⟩ => ⟨V, F, m, hd, hsz, fun u' a ht => by
    have ht : Qw.look (frA ((u, d1) :: fr)) u' = some a := ht
    rw [frA_look] at ht
    simp only [lookD] at ht
    cases hb : Nat.beq u u' with
    | true =>
      rw [hb] at ht
      have e := Nat.eq_of_beq_eq_true hb
      subst e
      cases ht
      exact hf u d1.av (by show Qw.look (frA fr) u = _; rw [frA_look, hl, ← he]; rfl)
    | false =>
      rw [hb] at ht
      exact hf u' a (by show Qw.look (frA fr) u' = _; rw [frA_look]; exact ht)⟩) h
/-- An int, told as the value that it is; and back. -/
theorem AWPD.asU {Q : Exit → DF → List OD → Prop} {c : Code} (u : Nat) {n : Int} (hl : lookD fr u = some (.i n)) (h : AWPD P C c Q ((u, .u (.int .i64 n)) :: fr) H) : AWPD P C c Q fr H := same_av u hl rfl h
theorem AWPD.asI {Q : Exit → DF → List OD → Prop} {c : Code} (u : Nat) {n : Int} (hl : lookD fr u = some (.u (.int .i64 n))) (h : AWPD P C c Q ((u, .i n) :: fr) H) : AWPD P C c Q fr H := same_av u hl rfl h
end
theorem mul_b {a b : Int} (ha : -31 ≤ a ∧ a ≤ 31) (hb : 0 ≤ b ∧ b ≤ 31) : -961 ≤ a * b ∧ a * b ≤ 961 := by
  have h1 := Int.mul_le_mul_of_nonneg_right ha.2 hb.1
  have h2 := Int.mul_le_mul_of_nonneg_right ha.1 hb.1
  omega
theorem sh_t {a b c : Int} (h : (bif !decide (1 ≤ a ∧ a ≤ c) then true else !decide (0 ≤ b ∧ b ≤ c)) = true) : ¬((1 ≤ a ∧ a ≤ c) ∧ (0 ≤ b ∧ b ≤ c)) := by
  simp at h
  omega
theorem sh_f {a b c : Int} (h : (bif !decide (1 ≤ a ∧ a ≤ c) then true else !decide (0 ≤ b ∧ b ≤ c)) = false) : (1 ≤ a ∧ a ≤ c) ∧ (0 ≤ b ∧ b ≤ c) := by
  simp at h
  omega
theorem tmod_zero {a p : Int} : a.tmod p = 0 ↔ p ∣ a := ⟨Int.dvd_of_tmod_eq_zero, Int.tmod_eq_zero_of_dvd⟩

theorem in4_fn (n lo hi : Int) : LiftsD Tryd.prog 27 [.i n, .i lo, .i hi] (.b (decide (lo ≤ n ∧ n ≤ hi))) := by
  refine LiftsD.of_body 15 [.tmp 6] Tryd.func27 rfl Tryd.ntmps27 (by kernel_rfl) rfl rfl fun w0 X0 => ?_
  refine AWPD.seq fun K1 hK1 => ?_
  -- region 0
  refine AWPD.keep [0, 1, 2] rfl ?_
  refine AWPD.region tabOK rfl ?_
  refine hK1 _ _ ?_
  clear hK1
  refine AWPD.seq fun K2 hK2 => ?_
  -- region 1
  refine AWPD.keep [0, 1, 2] rfl ?_
  refine AWPD.region tabOK rfl ?_
  repeat refine And.intro (by first | exact fun h => h | exact fun _ => rfl | (intro h; rw [h]; rfl) | omega | (intros; (try dsimp only [Ty.T, Ty.size]); (try simp only [castL_self, Int.toNat_natCast, Int.toNat_zero, Int.toNat_one, true_and, List.length_append, List.length_set, List.length_drop, List.length_take, List.length_replicate, List.length_cons, List.length_nil, Nat.zero_add, Nat.mul_one]); omega) | decide | (intros; simp_all; done) | (intros; simp_all; omega)) ?_
  refine hK2 _ _ ?_
  clear hK2
  refine AWPD.ret (And.intro (.inl rfl) ?_)
  -- result 0
  refine RetD.one ?_
  refine fitB rfl ?_
  show (bif decide (lo ≤ n) then decide (n ≤ hi) else false) = decide (lo ≤ n ∧ n ≤ hi)
  simp
theorem rfield_fn (p : Int) : LiftsD Tryd.prog 17 [.i p] (.i (fieldE p)) := by
  refine LiftsD.of_body 23 [.tmp 2] Tryd.func17 rfl Tryd.ntmps17 (by kernel_rfl) rfl rfl fun w0 X0 => ?_
  refine AWPD.seq fun K1 hK1 => ?_
  -- region 0
  refine AWPD.keep [0] rfl ?_
  refine AWPD.region tabOK rfl ?_
  refine hK1 _ _ ?_
  clear hK1
  refine AWPD.seq fun K2 hK2 => ?_
  refine AWPD.seq fun K3 hK3 => ?_
  -- region 1
  refine AWPD.keep [0] rfl ?_
  refine AWPD.region tabOK rfl ?_
  refine Exists.intro _ (Exists.intro _ (And.intro (StepD.call (in4_fn _ _ _) rfl rfl rfl) (And.intro rfl (And.intro trivial ?_))))
  refine hK3 _ _ ?_
  clear hK3
  first | refine AWPD.cond rfl (fun h0 => ?_) (fun h0 => ?_)
  · try dsimp only [Ty.T] at h0
    try simp only [castL_self] at h0
    try simp only [Int.toNat_natCast] at h0
    try simp only [Int.toNat_zero] at h0
    have h0 : ¬(2 ≤ p ∧ p ≤ 31) := by simp at h0; omega
    refine AWPD.seq fun K4 hK4 => ?_
    -- region 2
    refine AWPD.keep [] rfl ?_
    refine AWPD.region tabOK rfl ?_
    refine hK4 _ _ ?_
    clear hK4
    refine AWPD.ret (And.intro (.inl rfl) ?_)
    -- result 0
    refine RetD.one ?_
    exact fitI rfl (by unfold fieldE; rw [if_neg h0])
  · try dsimp only [Ty.T] at h0
    try simp only [castL_self] at h0
    try simp only [Int.toNat_natCast] at h0
    try simp only [Int.toNat_zero] at h0
    have h0 : 2 ≤ p ∧ p ≤ 31 := by simpa using h0
    have hp0 : ((p.toNat : Nat) : Int) = p := toNat_eq (by omega)
    have htab := field_tab p.toNat (by omega) (by omega)
    refine AWPD.skip ?_
    refine hK2 _ _ ?_
    clear hK2
    refine AWPD.seq fun K5 hK5 => ?_
    refine AWPD.seq fun K6 hK6 => ?_
    -- region 3
    refine AWPD.keep [0] rfl ?_
    refine AWPD.region tabOK rfl ?_
    refine hK6 _ _ ?_
    clear hK6
    refine AWPD.block ?_
    -- LOOP 0 live [0, 3] changed [3]
    refine AWPD.loopK (σ := Nat) [0] (fun a base => (3, .i (a : Int)) :: base) (fun _ => []) (fun n a => n + a = p.toNat ∧ 2 ≤ a ∧ ∀ a1, a1 < a → 2 ≤ a1 → ∀ b, b < p.toNat → 2 ≤ b → a1 * b ≠ p.toNat) (p.toNat - 2) 2 [] rfl rfl (⟨by omega, by omega, fun a1 h1 h2 => by omega⟩) (by decide) trivial (by repeat' first | exact True.intro | exact rfl | exact ⟨rfl, rfl⟩ | refine And.intro ?_ ?_) fun n0 a hI0 => ?_
    obtain ⟨hn0, ha2, hv0⟩ := hI0
    refine AWPD.seq fun K7 hK7 => ?_
    refine AWPD.seq fun K8 hK8 => ?_
    -- region 4
    refine AWPD.keep [0, 3] rfl ?_
    refine AWPD.region tabOK rfl ?_
    refine hK8 _ _ ?_
    clear hK8
    first | refine AWPD.condP rfl (fun h1 => ?_) (fun h1 => ?_) | refine AWPD.condN rfl (fun h1 => ?_) (fun h1 => ?_) | refine AWPD.condAP rfl (fun h1 => ?_) (fun h1 => ?_) | refine AWPD.condOP rfl (fun h1 => ?_) (fun h1 => ?_) | refine AWPD.condONN rfl (fun h1 => ?_) (fun h1 => ?_) | refine AWPD.condOPN rfl (fun h1 => ?_) (fun h1 => ?_) | refine AWPD.condA rfl (fun h1 => ?_) (fun h1 => ?_) | refine AWPD.condO rfl (fun h1 => ?_) (fun h1 => ?_) | refine AWPD.cond rfl (fun h1 => ?_) (fun h1 => ?_)
    · try dsimp only [Ty.T] at h1
      try simp only [castL_self] at h1
      try simp only [Int.toNat_natCast] at h1
      try simp only [Int.toNat_zero] at h1
      have hap : a < p.toNat := by omega
      refine AWPD.skip ?_
      refine hK7 _ _ ?_
      clear hK7
      refine AWPD.seq fun K9 hK9 => ?_
      refine AWPD.block ?_
      refine AWPD.seq fun K10 hK10 => ?_
      -- region 6
      refine AWPD.keep [0, 3] rfl ?_
      refine AWPD.region tabOK rfl ?_
      refine hK10 _ _ ?_
      clear hK10
      refine AWPD.block ?_
      -- LOOP 1 live [0, 3, 4] changed [4]
      refine AWPD.loopK (σ := Nat) [0, 3] (fun b base => (4, .i (b : Int)) :: base) (fun _ => []) (fun n b => n + b = p.toNat ∧ 2 ≤ b ∧ ∀ b1, b1 < b → 2 ≤ b1 → a * b1 ≠ p.toNat) (p.toNat - 2) 2 [] rfl rfl (⟨by omega, by omega, fun b1 h1 h2 => by omega⟩) (by decide) trivial (by repeat' first | exact True.intro | exact rfl | exact ⟨rfl, rfl⟩ | refine And.intro ?_ ?_) fun n1 b hI1 => ?_
      obtain ⟨hn1, hb2, hv1⟩ := hI1
      refine AWPD.seq fun K11 hK11 => ?_
      refine AWPD.seq fun K12 hK12 => ?_
      -- region 7
      refine AWPD.keep [0, 3, 4] rfl ?_
      refine AWPD.region tabOK rfl ?_
      refine hK12 _ _ ?_
      clear hK12
      first | refine AWPD.condP rfl (fun h2 => ?_) (fun h2 => ?_) | refine AWPD.condN rfl (fun h2 => ?_) (fun h2 => ?_) | refine AWPD.condAP rfl (fun h2 => ?_) (fun h2 => ?_) | refine AWPD.condOP rfl (fun h2 => ?_) (fun h2 => ?_) | refine AWPD.condONN rfl (fun h2 => ?_) (fun h2 => ?_) | refine AWPD.condOPN rfl (fun h2 => ?_) (fun h2 => ?_) | refine AWPD.condA rfl (fun h2 => ?_) (fun h2 => ?_) | refine AWPD.condO rfl (fun h2 => ?_) (fun h2 => ?_) | refine AWPD.cond rfl (fun h2 => ?_) (fun h2 => ?_)
      · try dsimp only [Ty.T] at h2
        try simp only [castL_self] at h2
        try simp only [Int.toNat_natCast] at h2
        try simp only [Int.toNat_zero] at h2
        have hbp : b < p.toNat := by omega
        have hmb := mul_b (a := (a : Int)) (b := (b : Int)) (by omega) (by omega)
        refine AWPD.skip ?_
        refine hK11 _ _ ?_
        clear hK11
        refine AWPD.seq fun K13 hK13 => ?_
        refine AWPD.block ?_
        refine AWPD.seq fun K14 hK14 => ?_
        -- region 9
        refine AWPD.keep [0, 3, 4] rfl ?_
        refine AWPD.region tabOK rfl ?_
        repeat refine And.intro (by first | exact fun h => h | exact fun _ => rfl | (intro h; rw [h]; rfl) | omega | (intros; (try dsimp only [Ty.T, Ty.size]); (try simp only [castL_self, Int.toNat_natCast, Int.toNat_zero, Int.toNat_one, true_and, List.length_append, List.length_set, List.length_drop, List.length_take, List.length_replicate, List.length_cons, List.length_nil, Nat.zero_add, Nat.mul_one]); omega) | decide | (intros; simp_all; done) | (intros; simp_all; omega)) ?_
        refine hK14 _ _ ?_
        clear hK14
        first | refine AWPD.condP rfl (fun h3 => ?_) (fun h3 => ?_) | refine AWPD.condN rfl (fun h3 => ?_) (fun h3 => ?_) | refine AWPD.condAP rfl (fun h3 => ?_) (fun h3 => ?_) | refine AWPD.condOP rfl (fun h3 => ?_) (fun h3 => ?_) | refine AWPD.condONN rfl (fun h3 => ?_) (fun h3 => ?_) | refine AWPD.condOPN rfl (fun h3 => ?_) (fun h3 => ?_) | refine AWPD.condA rfl (fun h3 => ?_) (fun h3 => ?_) | refine AWPD.condO rfl (fun h3 => ?_) (fun h3 => ?_) | refine AWPD.cond rfl (fun h3 => ?_) (fun h3 => ?_)
        · try dsimp only [Ty.T] at h3
          try simp only [castL_self] at h3
          try simp only [Int.toNat_natCast] at h3
          try simp only [Int.toNat_zero] at h3
          have hm : a * b = p.toNat := by have h3 : (a : Int) * (b : Int) = p := h3; rw [← hp0] at h3; exact_mod_cast h3
          refine AWPD.seq fun K15 hK15 => ?_
          -- region 10
          refine AWPD.keep [] rfl ?_
          refine AWPD.region tabOK rfl ?_
          refine hK15 _ _ ?_
          clear hK15
          refine AWPD.ret (And.intro (.inl rfl) ?_)
          -- result 1
          refine RetD.one ?_
          exact fitI rfl (by unfold fieldE; rw [if_pos (by omega), if_neg (fun hh => htab.2 hh a hap ha2 b hbp hb2 hm)])
        · try dsimp only [Ty.T] at h3
          try simp only [castL_self] at h3
          try simp only [Int.toNat_natCast] at h3
          try simp only [Int.toNat_zero] at h3
          have hm : a * b ≠ p.toNat := fun hh => h3 (by show (a : Int) * (b : Int) = p; rw [← hp0]; exact_mod_cast hh)
          refine AWPD.skip ?_
          refine hK13 _ _ ?_
          clear hK13
          -- region 8
          refine AWPD.keep [0, 3, 4] rfl ?_
          refine AWPD.region tabOK rfl ?_
          repeat refine And.intro (by first | exact fun h => h | exact fun _ => rfl | (intro h; rw [h]; rfl) | omega | (intros; (try dsimp only [Ty.T, Ty.size]); (try simp only [castL_self, Int.toNat_natCast, Int.toNat_zero, Int.toNat_one, true_and, List.length_append, List.length_set, List.length_drop, List.length_take, List.length_replicate, List.length_cons, List.length_nil, Nat.zero_add, Nat.mul_one]); omega) | decide | (intros; simp_all; done) | (intros; simp_all; omega)) ?_
          refine ⟨n1 - 1, b + 1, [], by omega, ⟨by omega, by omega, fun b1 h1 h2 => by
              rcases Nat.lt_or_ge b1 b with h | h
              · exact hv1 b1 h h2
              · rw [show b1 = b by omega]; exact hm⟩, ⟨by decide, rfl⟩, trivial, ?_⟩
          repeat' first | exact True.intro | exact rfl | exact ⟨rfl, rfl⟩ | refine And.intro ?_ ?_
      · try dsimp only [Ty.T] at h2
        try simp only [castL_self] at h2
        try simp only [Int.toNat_natCast] at h2
        try simp only [Int.toNat_zero] at h2
        have hbp : b = p.toNat := by omega
        refine AWPD.exit ?_
        refine hK9 _ _ ?_
        clear hK9
        -- region 5
        refine AWPD.keep [0, 3] rfl ?_
        refine AWPD.region tabOK rfl ?_
        repeat refine And.intro (by first | exact fun h => h | exact fun _ => rfl | (intro h; rw [h]; rfl) | omega | (intros; (try dsimp only [Ty.T, Ty.size]); (try simp only [castL_self, Int.toNat_natCast, Int.toNat_zero, Int.toNat_one, true_and, List.length_append, List.length_set, List.length_drop, List.length_take, List.length_replicate, List.length_cons, List.length_nil, Nat.zero_add, Nat.mul_one]); omega) | decide | (intros; simp_all; done) | (intros; simp_all; omega)) ?_
        refine ⟨n0 - 1, a + 1, [], by omega, ⟨by omega, by omega, fun a1 h1 h2 b1 h3 h4 => by
            rcases Nat.lt_or_ge a1 a with h | h
            · exact hv0 a1 h h2 b1 h3 h4
            · rw [show a1 = a by omega]; exact hv1 b1 (by omega) h4⟩, ⟨by decide, rfl⟩, trivial, ?_⟩
        repeat' first | exact True.intro | exact rfl | exact ⟨rfl, rfl⟩ | refine And.intro ?_ ?_
    · try dsimp only [Ty.T] at h1
      try simp only [castL_self] at h1
      try simp only [Int.toNat_natCast] at h1
      try simp only [Int.toNat_zero] at h1
      have hap : a = p.toNat := by omega
      refine AWPD.exit ?_
      refine hK5 _ _ ?_
      clear hK5
      refine AWPD.seq fun K16 hK16 => ?_
      -- region 11
      refine AWPD.keep [] rfl ?_
      refine AWPD.region tabOK rfl ?_
      refine hK16 _ _ ?_
      clear hK16
      refine AWPD.ret (And.intro (.inl rfl) ?_)
      -- result 2
      refine RetD.one ?_
      exact fitI rfl (by unfold fieldE; rw [if_pos (by omega), if_pos (htab.1 (fun a1 h1 h2 => hv0 a1 (by omega) h2))])
theorem rall_fn (p : Int) (l : List Int) (hp : 2 ≤ p ∧ p ≤ 31) (hl : l.length ≤ 4096) : LiftsD Tryd.prog 30 [.i p, .sl .int l] (.b (decide (allE p l = 0))) := by
  refine LiftsD.of_body 20 [.tmp 4] Tryd.func30 rfl Tryd.ntmps30 (by kernel_rfl) rfl rfl fun w0 X0 => ?_
  refine AWPD.seq fun K1 hK1 => ?_
  -- region 0
  refine AWPD.keep [0, 1] rfl ?_
  refine AWPD.region tabOK rfl ?_
  refine hK1 _ _ ?_
  clear hK1
  refine AWPD.seq fun K2 hK2 => ?_
  refine AWPD.seq fun K3 hK3 => ?_
  -- region 1
  refine AWPD.keep [0, 1] rfl ?_
  refine AWPD.region tabOK rfl ?_
  refine hK3 _ _ ?_
  clear hK3
  refine AWPD.block ?_
  -- LOOP 0 live [0, 1, 5] changed [5]
  refine AWPD.loopK (σ := Nat) [0, 1] (fun i base => (5, .i (i : Int)) :: base) (fun _ => []) (fun n i => n + i = l.length ∧ ∀ j, j < i → 0 ≤ l.getD j 0 ∧ l.getD j 0 ≤ p - 1) (l.length) 0 [] rfl rfl (⟨by omega, by intro j hj; omega⟩) (by decide) trivial (by repeat' first | exact True.intro | exact rfl | exact ⟨rfl, rfl⟩ | refine And.intro ?_ ?_) fun n0 i hI0 => ?_
  obtain ⟨hn0, hv0⟩ := hI0
  refine AWPD.seq fun K4 hK4 => ?_
  refine AWPD.seq fun K5 hK5 => ?_
  -- region 2
  refine AWPD.keep [0, 1, 5] rfl ?_
  refine AWPD.region tabOK rfl ?_
  refine hK5 _ _ ?_
  clear hK5
  first | refine AWPD.condP rfl (fun h0 => ?_) (fun h0 => ?_) | refine AWPD.condN rfl (fun h0 => ?_) (fun h0 => ?_) | refine AWPD.condAP rfl (fun h0 => ?_) (fun h0 => ?_) | refine AWPD.condOP rfl (fun h0 => ?_) (fun h0 => ?_) | refine AWPD.condONN rfl (fun h0 => ?_) (fun h0 => ?_) | refine AWPD.condOPN rfl (fun h0 => ?_) (fun h0 => ?_) | refine AWPD.condA rfl (fun h0 => ?_) (fun h0 => ?_) | refine AWPD.condO rfl (fun h0 => ?_) (fun h0 => ?_) | refine AWPD.cond rfl (fun h0 => ?_) (fun h0 => ?_)
  · try dsimp only [Ty.T] at h0
    try simp only [castL_self] at h0
    try simp only [Int.toNat_natCast] at h0
    try simp only [Int.toNat_zero] at h0
    have hil : i < l.length := by omega
    refine AWPD.skip ?_
    refine hK4 _ _ ?_
    clear hK4
    refine AWPD.seq fun K6 hK6 => ?_
    refine AWPD.block ?_
    refine AWPD.seq fun K7 hK7 => ?_
    -- region 4
    refine AWPD.keep [0, 1, 5] rfl ?_
    refine AWPD.region tabOK rfl ?_
    repeat refine And.intro (by first | exact fun h => h | exact fun _ => rfl | (intro h; rw [h]; rfl) | omega | (intros; (try dsimp only [Ty.T, Ty.size]); (try simp only [castL_self, Int.toNat_natCast, Int.toNat_zero, Int.toNat_one, true_and, List.length_append, List.length_set, List.length_drop, List.length_take, List.length_replicate, List.length_cons, List.length_nil, Nat.zero_add, Nat.mul_one]); omega) | decide | (intros; simp_all; done) | (intros; simp_all; omega)) ?_
    refine Exists.intro _ (Exists.intro _ (And.intro (StepD.call (in4_fn _ _ _) rfl rfl rfl) (And.intro rfl (And.intro trivial ?_))))
    refine hK7 _ _ ?_
    clear hK7
    first | refine AWPD.cond rfl (fun h1 => ?_) (fun h1 => ?_)
    · try dsimp only [Ty.T] at h1
      try simp only [castL_self] at h1
      try simp only [Int.toNat_natCast] at h1
      try simp only [Int.toNat_zero] at h1
      have h1 : ¬(0 ≤ l.getD i 0 ∧ l.getD i 0 ≤ p - 1) := by simp at h1 ⊢; omega
      refine AWPD.seq fun K8 hK8 => ?_
      -- region 5
      refine AWPD.keep [] rfl ?_
      refine AWPD.region tabOK rfl ?_
      refine hK8 _ _ ?_
      clear hK8
      refine AWPD.ret (And.intro (.inl rfl) ?_)
      -- result 0
      refine RetD.one ?_
      exact fitB rfl (decide_eq_false (fun e => h1 (allE_in e _ (getD_mem hil 0)))).symm
    · try dsimp only [Ty.T] at h1
      try simp only [castL_self] at h1
      try simp only [Int.toNat_natCast] at h1
      try simp only [Int.toNat_zero] at h1
      have h1 : 0 ≤ l.getD i 0 ∧ l.getD i 0 ≤ p - 1 := of_decide_eq_true (by simpa using h1)
      refine AWPD.skip ?_
      refine hK6 _ _ ?_
      clear hK6
      -- region 3
      refine AWPD.keep [0, 1, 5] rfl ?_
      refine AWPD.region tabOK rfl ?_
      repeat refine And.intro (by first | exact fun h => h | exact fun _ => rfl | (intro h; rw [h]; rfl) | omega | (intros; (try dsimp only [Ty.T, Ty.size]); (try simp only [castL_self, Int.toNat_natCast, Int.toNat_zero, Int.toNat_one, true_and, List.length_append, List.length_set, List.length_drop, List.length_take, List.length_replicate, List.length_cons, List.length_nil, Nat.zero_add, Nat.mul_one]); omega) | decide | (intros; simp_all; done) | (intros; simp_all; omega)) ?_
      refine ⟨n0 - 1, i + 1, [], by omega, ⟨by omega, fun j hj => by
          rcases Nat.lt_or_ge j i with h | h
          · exact hv0 j h
          · rw [show j = i by omega]; exact h1⟩, ⟨by decide, rfl⟩, trivial, ?_⟩
      repeat' first | exact True.intro | exact rfl | exact ⟨rfl, rfl⟩ | refine And.intro ?_ ?_
  · try dsimp only [Ty.T] at h0
    try simp only [castL_self] at h0
    try simp only [Int.toNat_natCast] at h0
    try simp only [Int.toNat_zero] at h0
    have hil : i = l.length := by omega
    refine AWPD.exit ?_
    refine hK2 _ _ ?_
    clear hK2
    refine AWPD.seq fun K9 hK9 => ?_
    -- region 6
    refine AWPD.keep [] rfl ?_
    refine AWPD.region tabOK rfl ?_
    refine hK9 _ _ ?_
    clear hK9
    refine AWPD.ret (And.intro (.inl rfl) ?_)
    -- result 1
    refine RetD.one ?_
    refine fitB rfl (decide_eq_true ?_).symm
    unfold allE
    rw [if_pos]
    intro y hy
    obtain ⟨j, hj, rfl⟩ := List.getElem_of_mem hy
    have := hv0 j (by omega)
    simpa [List.getD, hj] using this
theorem rshares_fn (p : Int) (l : List Sh) : LiftsD Tryd.prog 21 [.i p, .sl .two l] (.i (sharesE p l)) := by
  refine LiftsD.of_body 61 [.tmp 4] Tryd.func21 rfl Tryd.ntmps21 (by kernel_rfl) rfl rfl fun w0 X0 => ?_
  refine AWPD.seq fun K1 hK1 => ?_
  -- region 0
  refine AWPD.keep [0, 1] rfl ?_
  refine AWPD.region tabOK rfl ?_
  refine hK1 _ _ ?_
  clear hK1
  refine AWPD.seq fun K2 hK2 => ?_
  -- region 1
  refine AWPD.keep [0, 1] rfl ?_
  refine AWPD.region tabOK rfl ?_
  refine Exists.intro _ (Exists.intro _ (And.intro (StepD.call (rfield_fn _) rfl rfl rfl) (And.intro rfl (And.intro trivial ?_))))
  refine hK2 _ _ ?_
  clear hK2
  refine AWPD.seq fun K3 hK3 => ?_
  refine AWPD.seq fun K4 hK4 => ?_
  -- region 2
  refine AWPD.keep [0, 1, 5] rfl ?_
  refine AWPD.region tabOK rfl ?_
  refine hK4 _ _ ?_
  clear hK4
  first | refine AWPD.condP rfl (fun h0 => ?_) (fun h0 => ?_) | refine AWPD.condN rfl (fun h0 => ?_) (fun h0 => ?_) | refine AWPD.condAP rfl (fun h0 => ?_) (fun h0 => ?_) | refine AWPD.condOP rfl (fun h0 => ?_) (fun h0 => ?_) | refine AWPD.condONN rfl (fun h0 => ?_) (fun h0 => ?_) | refine AWPD.condOPN rfl (fun h0 => ?_) (fun h0 => ?_) | refine AWPD.condA rfl (fun h0 => ?_) (fun h0 => ?_) | refine AWPD.condO rfl (fun h0 => ?_) (fun h0 => ?_) | refine AWPD.cond rfl (fun h0 => ?_) (fun h0 => ?_)
  · try dsimp only [Ty.T] at h0
    try simp only [castL_self] at h0
    try simp only [Int.toNat_natCast] at h0
    try simp only [Int.toNat_zero] at h0
    refine AWPD.seq fun K5 hK5 => ?_
    -- region 3
    refine AWPD.keep [5] rfl ?_
    refine AWPD.region tabOK rfl ?_
    refine hK5 _ _ ?_
    clear hK5
    refine AWPD.ret (And.intro (.inl rfl) ?_)
    -- result 0
    refine RetD.one ?_
    exact fitI rfl (by unfold sharesE; rw [if_pos h0])
  · try dsimp only [Ty.T] at h0
    try simp only [castL_self] at h0
    try simp only [Int.toNat_natCast] at h0
    try simp only [Int.toNat_zero] at h0
    have hf : fieldE p = 0 := by simpa using h0
    obtain ⟨hp1, hp2, -⟩ := fieldE_in hf
    refine AWPD.skip ?_
    refine hK3 _ _ ?_
    clear hK3
    refine AWPD.seq fun K6 hK6 => ?_
    refine AWPD.seq fun K7 hK7 => ?_
    -- region 4
    refine AWPD.keep [0, 1] rfl ?_
    refine AWPD.region tabOK rfl ?_
    refine hK7 _ _ ?_
    clear hK7
    first | refine AWPD.condP rfl (fun h1 => ?_) (fun h1 => ?_) | refine AWPD.condN rfl (fun h1 => ?_) (fun h1 => ?_) | refine AWPD.condAP rfl (fun h1 => ?_) (fun h1 => ?_) | refine AWPD.condOP rfl (fun h1 => ?_) (fun h1 => ?_) | refine AWPD.condONN rfl (fun h1 => ?_) (fun h1 => ?_) | refine AWPD.condOPN rfl (fun h1 => ?_) (fun h1 => ?_) | refine AWPD.condA rfl (fun h1 => ?_) (fun h1 => ?_) | refine AWPD.condO rfl (fun h1 => ?_) (fun h1 => ?_) | refine AWPD.cond rfl (fun h1 => ?_) (fun h1 => ?_)
    · try dsimp only [Ty.T] at h1
      try simp only [castL_self] at h1
      try simp only [Int.toNat_natCast] at h1
      try simp only [Int.toNat_zero] at h1
      refine AWPD.seq fun K8 hK8 => ?_
      -- region 5
      refine AWPD.keep [] rfl ?_
      refine AWPD.region tabOK rfl ?_
      refine hK8 _ _ ?_
      clear hK8
      refine AWPD.ret (And.intro (.inl rfl) ?_)
      -- result 1
      refine RetD.one ?_
      exact fitI rfl (by unfold sharesE; rw [if_neg (by omega), if_pos (by omega)])
    · try dsimp only [Ty.T] at h1
      try simp only [castL_self] at h1
      try simp only [Int.toNat_natCast] at h1
      try simp only [Int.toNat_zero] at h1
      refine AWPD.skip ?_
      refine hK6 _ _ ?_
      clear hK6
      refine AWPD.seq fun K9 hK9 => ?_
      refine AWPD.seq fun K10 hK10 => ?_
      -- region 6
      refine AWPD.keep [0, 1] rfl ?_
      refine AWPD.region tabOK rfl ?_
      refine hK10 _ _ ?_
      clear hK10
      first | refine AWPD.condP rfl (fun h2 => ?_) (fun h2 => ?_) | refine AWPD.condN rfl (fun h2 => ?_) (fun h2 => ?_) | refine AWPD.condAP rfl (fun h2 => ?_) (fun h2 => ?_) | refine AWPD.condOP rfl (fun h2 => ?_) (fun h2 => ?_) | refine AWPD.condONN rfl (fun h2 => ?_) (fun h2 => ?_) | refine AWPD.condOPN rfl (fun h2 => ?_) (fun h2 => ?_) | refine AWPD.condA rfl (fun h2 => ?_) (fun h2 => ?_) | refine AWPD.condO rfl (fun h2 => ?_) (fun h2 => ?_) | refine AWPD.cond rfl (fun h2 => ?_) (fun h2 => ?_)
      · try dsimp only [Ty.T] at h2
        try simp only [castL_self] at h2
        try simp only [Int.toNat_natCast] at h2
        try simp only [Int.toNat_zero] at h2
        refine AWPD.seq fun K11 hK11 => ?_
        -- region 7
        refine AWPD.keep [] rfl ?_
        refine AWPD.region tabOK rfl ?_
        refine hK11 _ _ ?_
        clear hK11
        refine AWPD.ret (And.intro (.inl rfl) ?_)
        -- result 2
        refine RetD.one ?_
        exact fitI rfl (by unfold sharesE; rw [if_neg (by omega), if_neg (by omega), if_pos (by omega)])
      · try dsimp only [Ty.T] at h2
        try simp only [castL_self] at h2
        try simp only [Int.toNat_natCast] at h2
        try simp only [Int.toNat_zero] at h2
        refine AWPD.skip ?_
        refine hK9 _ _ ?_
        clear hK9
        refine AWPD.seq fun K12 hK12 => ?_
        refine AWPD.seq fun K13 hK13 => ?_
        -- region 8
        refine AWPD.keep [0, 1] rfl ?_
        refine AWPD.region tabOK rfl ?_
        refine hK13 _ _ ?_
        clear hK13
        refine AWPD.block ?_
        -- LOOP 0 live [0, 1, 6] changed [6]
        refine AWPD.loopK (σ := Nat) [0, 1] (fun i base => (6, .i (i : Int)) :: base) (fun _ => []) (fun n i => n + i = l.length ∧ sharesE p l = scanSh p ((l.take i).map (·.1)) (l.drop i)) (l.length) 0 [] rfl rfl (⟨by omega, by unfold sharesE; rw [if_neg (by omega), if_neg (by omega), if_neg (by omega)]; rfl⟩) (by decide) trivial (by repeat' first | exact True.intro | exact rfl | exact ⟨rfl, rfl⟩ | refine And.intro ?_ ?_) fun n0 i hI0 => ?_
        obtain ⟨hn0, hv0⟩ := hI0
        refine AWPD.seq fun K14 hK14 => ?_
        refine AWPD.seq fun K15 hK15 => ?_
        -- region 9
        refine AWPD.keep [0, 1, 6] rfl ?_
        refine AWPD.region tabOK rfl ?_
        refine hK15 _ _ ?_
        clear hK15
        first | refine AWPD.condP rfl (fun h3 => ?_) (fun h3 => ?_) | refine AWPD.condN rfl (fun h3 => ?_) (fun h3 => ?_) | refine AWPD.condAP rfl (fun h3 => ?_) (fun h3 => ?_) | refine AWPD.condOP rfl (fun h3 => ?_) (fun h3 => ?_) | refine AWPD.condONN rfl (fun h3 => ?_) (fun h3 => ?_) | refine AWPD.condOPN rfl (fun h3 => ?_) (fun h3 => ?_) | refine AWPD.condA rfl (fun h3 => ?_) (fun h3 => ?_) | refine AWPD.condO rfl (fun h3 => ?_) (fun h3 => ?_) | refine AWPD.cond rfl (fun h3 => ?_) (fun h3 => ?_)
        · try dsimp only [Ty.T] at h3
          try simp only [castL_self] at h3
          try simp only [Int.toNat_natCast] at h3
          try simp only [Int.toNat_zero] at h3
          have hil : i < l.length := by omega
          refine AWPD.skip ?_
          refine hK14 _ _ ?_
          clear hK14
          refine AWPD.seq fun K16 hK16 => ?_
          refine AWPD.block ?_
          refine AWPD.seq fun K17 hK17 => ?_
          refine AWPD.seq fun K18 hK18 => ?_
          -- region 11
          refine AWPD.keep [0, 1, 6] rfl ?_
          refine AWPD.region tabOK rfl ?_
          repeat refine And.intro (by first | exact fun h => h | exact fun _ => rfl | (intro h; rw [h]; rfl) | omega | (intros; (try dsimp only [Ty.T, Ty.size]); (try simp only [castL_self, Int.toNat_natCast, Int.toNat_zero, Int.toNat_one, true_and, List.length_append, List.length_set, List.length_drop, List.length_take, List.length_replicate, List.length_cons, List.length_nil, Nat.zero_add, Nat.mul_one]); omega) | decide | (intros; simp_all; done) | (intros; simp_all; omega)) ?_
          refine Exists.intro _ (Exists.intro _ (And.intro (StepD.call (in4_fn _ _ _) rfl rfl rfl) (And.intro rfl (And.intro trivial ?_))))
          repeat refine And.intro (by first | exact fun h => h | exact fun _ => rfl | (intro h; rw [h]; rfl) | omega | (intros; (try dsimp only [Ty.T, Ty.size]); (try simp only [castL_self, Int.toNat_natCast, Int.toNat_zero, Int.toNat_one, true_and, List.length_append, List.length_set, List.length_drop, List.length_take, List.length_replicate, List.length_cons, List.length_nil, Nat.zero_add, Nat.mul_one]); omega) | decide | (intros; simp_all; done) | (intros; simp_all; omega)) ?_
          refine Exists.intro _ (Exists.intro _ (And.intro (fun hg => StepD.call (in4_fn _ _ _) rfl rfl rfl) (And.intro (fun hf => rfl) (And.intro rfl (And.intro trivial ?_)))))
          repeat refine And.intro (by first | exact fun h => h | exact fun _ => rfl | (intro h; rw [h]; rfl) | omega | (intros; (try dsimp only [Ty.T, Ty.size]); (try simp only [castL_self, Int.toNat_natCast, Int.toNat_zero, Int.toNat_one, true_and, List.length_append, List.length_set, List.length_drop, List.length_take, List.length_replicate, List.length_cons, List.length_nil, Nat.zero_add, Nat.mul_one]); omega) | decide | (intros; simp_all; done) | (intros; simp_all; omega)) ?_
          refine hK18 _ _ ?_
          clear hK18
          first | refine AWPD.cond rfl (fun h4 => ?_) (fun h4 => ?_)
          · try dsimp only [Ty.T] at h4
            try simp only [castL_self] at h4
            try simp only [Int.toNat_natCast] at h4
            try simp only [Int.toNat_zero] at h4
            have h4 : ¬((1 ≤ (l.getD i (0, 0)).1 ∧ (l.getD i (0, 0)).1 ≤ p - 1) ∧ (0 ≤ (l.getD i (0, 0)).2 ∧ (l.getD i (0, 0)).2 ≤ p - 1)) := sh_t h4
            refine AWPD.seq fun K19 hK19 => ?_
            -- region 12
            refine AWPD.keep [] rfl ?_
            refine AWPD.region tabOK rfl ?_
            refine hK19 _ _ ?_
            clear hK19
            refine AWPD.ret (And.intro (.inl rfl) ?_)
            -- result 3
            refine RetD.one ?_
            exact fitI rfl (by rw [hv0, drop_cons (by omega) ((0 : Int), (0 : Int)), scanSh, if_neg h4])
          · try dsimp only [Ty.T] at h4
            try simp only [castL_self] at h4
            try simp only [Int.toNat_natCast] at h4
            try simp only [Int.toNat_zero] at h4
            have h4 : (1 ≤ (l.getD i (0, 0)).1 ∧ (l.getD i (0, 0)).1 ≤ p - 1) ∧ (0 ≤ (l.getD i (0, 0)).2 ∧ (l.getD i (0, 0)).2 ≤ p - 1) := sh_f h4
            refine AWPD.skip ?_
            refine hK17 _ _ ?_
            clear hK17
            refine AWPD.seq fun K20 hK20 => ?_
            -- region 13
            refine AWPD.keep [0, 1, 6] rfl ?_
            refine AWPD.region tabOK rfl ?_
            refine hK20 _ _ ?_
            clear hK20
            refine AWPD.block ?_
            -- LOOP 1 live [0, 1, 6, 7] changed [7]
            refine AWPD.loopK (σ := Nat) [0, 1, 6] (fun j base => (7, .i (j : Int)) :: base) (fun _ => []) (fun n j => n + j = i ∧ ∀ q, q < j → (l.getD q (0, 0)).1 ≠ (l.getD i (0, 0)).1) (i) 0 [] rfl rfl (⟨by omega, by intro q hq; omega⟩) (by decide) trivial (by repeat' first | exact True.intro | exact rfl | exact ⟨rfl, rfl⟩ | refine And.intro ?_ ?_) fun n1 j hI1 => ?_
            obtain ⟨hn1, hv1⟩ := hI1
            refine AWPD.seq fun K21 hK21 => ?_
            refine AWPD.seq fun K22 hK22 => ?_
            -- region 14
            refine AWPD.keep [0, 1, 6, 7] rfl ?_
            refine AWPD.region tabOK rfl ?_
            refine hK22 _ _ ?_
            clear hK22
            first | refine AWPD.condP rfl (fun h5 => ?_) (fun h5 => ?_) | refine AWPD.condN rfl (fun h5 => ?_) (fun h5 => ?_) | refine AWPD.condAP rfl (fun h5 => ?_) (fun h5 => ?_) | refine AWPD.condOP rfl (fun h5 => ?_) (fun h5 => ?_) | refine AWPD.condONN rfl (fun h5 => ?_) (fun h5 => ?_) | refine AWPD.condOPN rfl (fun h5 => ?_) (fun h5 => ?_) | refine AWPD.condA rfl (fun h5 => ?_) (fun h5 => ?_) | refine AWPD.condO rfl (fun h5 => ?_) (fun h5 => ?_) | refine AWPD.cond rfl (fun h5 => ?_) (fun h5 => ?_)
            · try dsimp only [Ty.T] at h5
              try simp only [castL_self] at h5
              try simp only [Int.toNat_natCast] at h5
              try simp only [Int.toNat_zero] at h5
              refine AWPD.skip ?_
              refine hK21 _ _ ?_
              clear hK21
              refine AWPD.seq fun K23 hK23 => ?_
              refine AWPD.block ?_
              refine AWPD.seq fun K24 hK24 => ?_
              -- region 16
              refine AWPD.keep [0, 1, 6, 7] rfl ?_
              refine AWPD.draw tabOK [] rfl (by kernel_rfl) ?_
              repeat refine And.intro (by first | exact fun h => h | exact fun _ => rfl | (intro h; rw [h]; rfl) | omega | (intros; (try dsimp only [Ty.T, Ty.size]); (try simp only [castL_self, Int.toNat_natCast, Int.toNat_zero, Int.toNat_one, true_and, List.length_append, List.length_set, List.length_drop, List.length_take, List.length_replicate, List.length_cons, List.length_nil, Nat.zero_add, Nat.mul_one]); omega) | decide | (intros; simp_all; done) | (intros; simp_all; omega)) ?_
              refine hK24 _ _ ?_
              clear hK24
              first | refine AWPD.condP rfl (fun h6 => ?_) (fun h6 => ?_) | refine AWPD.condN rfl (fun h6 => ?_) (fun h6 => ?_) | refine AWPD.condAP rfl (fun h6 => ?_) (fun h6 => ?_) | refine AWPD.condOP rfl (fun h6 => ?_) (fun h6 => ?_) | refine AWPD.condONN rfl (fun h6 => ?_) (fun h6 => ?_) | refine AWPD.condOPN rfl (fun h6 => ?_) (fun h6 => ?_) | refine AWPD.condA rfl (fun h6 => ?_) (fun h6 => ?_) | refine AWPD.condO rfl (fun h6 => ?_) (fun h6 => ?_) | refine AWPD.cond rfl (fun h6 => ?_) (fun h6 => ?_)
              · try dsimp only [Ty.T] at h6
                try simp only [castL_self] at h6
                try simp only [Int.toNat_natCast] at h6
                try simp only [Int.toNat_zero] at h6
                have h6 : (l.getD j (0, 0)).1 = (l.getD i (0, 0)).1 := h6
                refine AWPD.seq fun K25 hK25 => ?_
                -- region 17
                refine AWPD.keep [] rfl ?_
                refine AWPD.region tabOK rfl ?_
                refine hK25 _ _ ?_
                clear hK25
                refine AWPD.ret (And.intro (.inl rfl) ?_)
                -- result 4
                refine RetD.one ?_
                exact fitI rfl (by rw [hv0, drop_cons (by omega) ((0 : Int), (0 : Int)), scanSh, if_pos h4, if_pos (firsts_in (show j < i by omega) (by omega) h6)])
              · try dsimp only [Ty.T] at h6
                try simp only [castL_self] at h6
                try simp only [Int.toNat_natCast] at h6
                try simp only [Int.toNat_zero] at h6
                have h6 : ¬(l.getD j (0, 0)).1 = (l.getD i (0, 0)).1 := h6
                refine AWPD.skip ?_
                refine hK23 _ _ ?_
                clear hK23
                -- region 15
                refine AWPD.keep [0, 1, 6, 7] rfl ?_
                refine AWPD.region tabOK rfl ?_
                repeat refine And.intro (by first | exact fun h => h | exact fun _ => rfl | (intro h; rw [h]; rfl) | omega | (intros; (try dsimp only [Ty.T, Ty.size]); (try simp only [castL_self, Int.toNat_natCast, Int.toNat_zero, Int.toNat_one, true_and, List.length_append, List.length_set, List.length_drop, List.length_take, List.length_replicate, List.length_cons, List.length_nil, Nat.zero_add, Nat.mul_one]); omega) | decide | (intros; simp_all; done) | (intros; simp_all; omega)) ?_
                refine ⟨n1 - 1, j + 1, [], by omega, ⟨by omega, fun q hq => by
                    rcases Nat.lt_or_ge q j with h | h
                    · exact hv1 q h
                    · rw [show q = j by omega]; exact h6⟩, ⟨by decide, rfl⟩, trivial, ?_⟩
                repeat' first | exact True.intro | exact rfl | exact ⟨rfl, rfl⟩ | refine And.intro ?_ ?_
            · try dsimp only [Ty.T] at h5
              try simp only [castL_self] at h5
              try simp only [Int.toNat_natCast] at h5
              try simp only [Int.toNat_zero] at h5
              refine AWPD.exit ?_
              refine hK16 _ _ ?_
              clear hK16
              -- region 10
              refine AWPD.keep [0, 1, 6] rfl ?_
              refine AWPD.region tabOK rfl ?_
              repeat refine And.intro (by first | exact fun h => h | exact fun _ => rfl | (intro h; rw [h]; rfl) | omega | (intros; (try dsimp only [Ty.T, Ty.size]); (try simp only [castL_self, Int.toNat_natCast, Int.toNat_zero, Int.toNat_one, true_and, List.length_append, List.length_set, List.length_drop, List.length_take, List.length_replicate, List.length_cons, List.length_nil, Nat.zero_add, Nat.mul_one]); omega) | decide | (intros; simp_all; done) | (intros; simp_all; omega)) ?_
              refine ⟨n0 - 1, i + 1, [], by omega, ⟨by omega, by rw [hv0, drop_cons (by omega) ((0 : Int), (0 : Int)), scanSh, if_pos h4, if_neg (fun hm => by obtain ⟨q, hq, e⟩ := in_firsts hm; exact hv1 q (by omega) e), take_snoc (by omega) ((0 : Int), (0 : Int)), List.map_append]; rfl⟩, ⟨by decide, rfl⟩, trivial, ?_⟩
              repeat' first | exact True.intro | exact rfl | exact ⟨rfl, rfl⟩ | refine And.intro ?_ ?_
        · try dsimp only [Ty.T] at h3
          try simp only [castL_self] at h3
          try simp only [Int.toNat_natCast] at h3
          try simp only [Int.toNat_zero] at h3
          refine AWPD.exit ?_
          refine hK12 _ _ ?_
          clear hK12
          refine AWPD.seq fun K26 hK26 => ?_
          -- region 18
          refine AWPD.keep [] rfl ?_
          refine AWPD.region tabOK rfl ?_
          refine hK26 _ _ ?_
          clear hK26
          refine AWPD.ret (And.intro (.inl rfl) ?_)
          -- result 5
          refine RetD.one ?_
          exact fitI rfl (by rw [hv0, List.drop_of_length_le (by omega)]; rfl)
theorem over_fn (p a b v : Int) (hp : 2 ≤ p ∧ p ≤ 31) (ha : 0 ≤ a ∧ a ≤ p - 1) (hb : 0 ≤ b ∧ b ≤ p - 1) (f : Frac p a b v) : LiftsD Tryd.prog 33 [.i p, .i a, .i b] (.i v) := by
  refine LiftsD.of_body 22 [.tmp 6] Tryd.func33 rfl Tryd.ntmps33 (by kernel_rfl) rfl rfl fun w0 X0 => ?_
  refine AWPD.seq fun K1 hK1 => ?_
  -- region 0
  refine AWPD.keep [0, 1, 2] rfl ?_
  refine AWPD.region tabOK rfl ?_
  refine hK1 _ _ ?_
  clear hK1
  refine AWPD.seq fun K2 hK2 => ?_
  refine AWPD.seq fun K3 hK3 => ?_
  -- region 1
  refine AWPD.keep [0, 1, 2] rfl ?_
  refine AWPD.region tabOK rfl ?_
  refine hK3 _ _ ?_
  clear hK3
  refine AWPD.block ?_
  -- LOOP 0 live [0, 1, 2, 7] changed [7]
  refine AWPD.loopK (σ := Nat) [0, 1, 2] (fun x base => (7, .i (x : Int)) :: base) (fun _ => []) (fun n x => n + x = p.toNat ∧ ∀ y : Nat, y < x → ¬p ∣ (y : Int) * b - a) (p.toNat) 0 [] rfl rfl (⟨by omega, by intro y hy; omega⟩) (by decide) trivial (by repeat' first | exact True.intro | exact rfl | exact ⟨rfl, rfl⟩ | refine And.intro ?_ ?_) fun n0 x hI0 => ?_
  obtain ⟨hn0, hv0⟩ := hI0
  refine AWPD.seq fun K4 hK4 => ?_
  refine AWPD.seq fun K5 hK5 => ?_
  -- region 2
  refine AWPD.keep [0, 1, 2, 7] rfl ?_
  refine AWPD.region tabOK rfl ?_
  refine hK5 _ _ ?_
  clear hK5
  first | refine AWPD.condP rfl (fun h0 => ?_) (fun h0 => ?_) | refine AWPD.condN rfl (fun h0 => ?_) (fun h0 => ?_) | refine AWPD.condAP rfl (fun h0 => ?_) (fun h0 => ?_) | refine AWPD.condOP rfl (fun h0 => ?_) (fun h0 => ?_) | refine AWPD.condONN rfl (fun h0 => ?_) (fun h0 => ?_) | refine AWPD.condOPN rfl (fun h0 => ?_) (fun h0 => ?_) | refine AWPD.condA rfl (fun h0 => ?_) (fun h0 => ?_) | refine AWPD.condO rfl (fun h0 => ?_) (fun h0 => ?_) | refine AWPD.cond rfl (fun h0 => ?_) (fun h0 => ?_)
  · try dsimp only [Ty.T] at h0
    try simp only [castL_self] at h0
    try simp only [Int.toNat_natCast] at h0
    try simp only [Int.toNat_zero] at h0
    have hxp : (x : Int) ≤ p - 1 := by omega
    have hmb := mul_b (a := (x : Int)) (b := b) (by omega) (by omega)
    refine AWPD.skip ?_
    refine hK4 _ _ ?_
    clear hK4
    refine AWPD.seq fun K6 hK6 => ?_
    refine AWPD.block ?_
    refine AWPD.seq fun K7 hK7 => ?_
    -- region 4
    refine AWPD.asU 0 rfl ?_
    refine AWPD.keep [0, 1, 2, 7] rfl ?_
    refine AWPD.region tabOK rfl ?_
    repeat refine And.intro (by first | exact fun h => h | exact fun _ => rfl | (intro h; rw [h]; rfl) | omega | (intros; (try dsimp only [Ty.T, Ty.size]); (try simp only [castL_self, Int.toNat_natCast, Int.toNat_zero, Int.toNat_one, true_and, List.length_append, List.length_set, List.length_drop, List.length_take, List.length_replicate, List.length_cons, List.length_nil, Nat.zero_add, Nat.mul_one]); omega) | decide | (intros; simp_all; done) | (intros; simp_all; omega)) ?_
    refine Exists.intro _ (Exists.intro _ (And.intro (rem_step (a := (x : Int) * b - a) (b := p) rfl rfl (by omega)) (And.intro rfl (And.intro trivial ?_))))
    refine hK7 _ _ ?_
    clear hK7
    first | refine AWPD.condP rfl (fun h1 => ?_) (fun h1 => ?_) | refine AWPD.condN rfl (fun h1 => ?_) (fun h1 => ?_) | refine AWPD.condAP rfl (fun h1 => ?_) (fun h1 => ?_) | refine AWPD.condOP rfl (fun h1 => ?_) (fun h1 => ?_) | refine AWPD.condONN rfl (fun h1 => ?_) (fun h1 => ?_) | refine AWPD.condOPN rfl (fun h1 => ?_) (fun h1 => ?_) | refine AWPD.condA rfl (fun h1 => ?_) (fun h1 => ?_) | refine AWPD.condO rfl (fun h1 => ?_) (fun h1 => ?_) | refine AWPD.cond rfl (fun h1 => ?_) (fun h1 => ?_)
    · try dsimp only [Ty.T] at h1
      try simp only [castL_self] at h1
      try simp only [Int.toNat_natCast] at h1
      try simp only [Int.toNat_zero] at h1
      have hd : p ∣ (x : Int) * b - a := tmod_zero.1 h1
      refine AWPD.seq fun K8 hK8 => ?_
      -- region 5
      refine AWPD.keep [7] rfl ?_
      refine AWPD.region tabOK rfl ?_
      refine hK8 _ _ ?_
      clear hK8
      refine AWPD.ret (And.intro (.inl rfl) ?_)
      -- result 0
      refine RetD.one ?_
      exact fitI rfl (f.uniq _ (by omega) hxp hd)
    · try dsimp only [Ty.T] at h1
      try simp only [castL_self] at h1
      try simp only [Int.toNat_natCast] at h1
      try simp only [Int.toNat_zero] at h1
      have hd : ¬p ∣ (x : Int) * b - a := fun hh => h1 (tmod_zero.2 hh)
      refine AWPD.skip ?_
      refine hK6 _ _ ?_
      clear hK6
      -- region 3
      refine AWPD.asI 0 rfl ?_
      refine AWPD.keep [0, 1, 2, 7] rfl ?_
      refine AWPD.region tabOK rfl ?_
      repeat refine And.intro (by first | exact fun h => h | exact fun _ => rfl | (intro h; rw [h]; rfl) | omega | (intros; (try dsimp only [Ty.T, Ty.size]); (try simp only [castL_self, Int.toNat_natCast, Int.toNat_zero, Int.toNat_one, true_and, List.length_append, List.length_set, List.length_drop, List.length_take, List.length_replicate, List.length_cons, List.length_nil, Nat.zero_add, Nat.mul_one]); omega) | decide | (intros; simp_all; done) | (intros; simp_all; omega)) ?_
      refine ⟨n0 - 1, x + 1, [], by omega, ⟨by omega, fun y hy => by
          rcases Nat.lt_or_ge y x with h | h
          · exact hv0 y h
          · rw [show y = x by omega]; exact hd⟩, ⟨by decide, rfl⟩, trivial, ?_⟩
      repeat' first | exact True.intro | exact rfl | exact ⟨rfl, rfl⟩ | refine And.intro ?_ ?_
  · try dsimp only [Ty.T] at h0
    try simp only [castL_self] at h0
    try simp only [Int.toNat_natCast] at h0
    try simp only [Int.toNat_zero] at h0
    have hin := f.in_
    have hxp : v.toNat < x := by omega
    refine AWPD.exit ?_
    refine hK2 _ _ ?_
    clear hK2
    refine AWPD.seq fun K9 hK9 => ?_
    -- region 6
    refine AWPD.keep [] rfl ?_
    refine AWPD.region tabOK rfl ?_
    refine hK9 _ _ ?_
    clear hK9
    refine AWPD.ret (And.intro (.inl rfl) ?_)
    -- result 1
    refine RetD.one ?_
    exact absurd (by rw [Int.toNat_of_nonneg hin.1]; exact f.is_) (hv0 v.toNat hxp)
theorem at4_step (p : Int) (l : List Sh) (x : Int) (g : GoodS p l) (hx : 0 ≤ x ∧ x ≤ p - 1) (ih : ∀ K : List Sh, K.length < l.length → GoodS p K → LiftsD Tryd.prog 22 [.i p, .sl .two K, .i x] (.i (nevV p K x))) : LiftsD Tryd.prog 22 [.i p, .sl .two l, .i x] (.i (nevV p l x)) := by
  have g1 := g.p2
  have g2 := g.p31
  have g3 := g.some
  have g4 := g.few
  refine LiftsD.of_body 70 [.tmp 6] Tryd.func22 rfl Tryd.ntmps22 (by kernel_rfl) rfl rfl fun w0 X0 => ?_
  refine AWPD.seq fun K1 hK1 => ?_
  -- region 0
  refine AWPD.keep [0, 1, 2] rfl ?_
  refine AWPD.region tabOK rfl ?_
  refine hK1 _ _ ?_
  clear hK1
  refine AWPD.seq fun K2 hK2 => ?_
  refine AWPD.seq fun K3 hK3 => ?_
  -- region 1
  refine AWPD.keep [0, 1, 2] rfl ?_
  refine AWPD.region tabOK rfl ?_
  refine hK3 _ _ ?_
  clear hK3
  first | refine AWPD.condP rfl (fun h0 => ?_) (fun h0 => ?_) | refine AWPD.condN rfl (fun h0 => ?_) (fun h0 => ?_) | refine AWPD.condAP rfl (fun h0 => ?_) (fun h0 => ?_) | refine AWPD.condOP rfl (fun h0 => ?_) (fun h0 => ?_) | refine AWPD.condONN rfl (fun h0 => ?_) (fun h0 => ?_) | refine AWPD.condOPN rfl (fun h0 => ?_) (fun h0 => ?_) | refine AWPD.condA rfl (fun h0 => ?_) (fun h0 => ?_) | refine AWPD.condO rfl (fun h0 => ?_) (fun h0 => ?_) | refine AWPD.cond rfl (fun h0 => ?_) (fun h0 => ?_)
  · try dsimp only [Ty.T] at h0
    try simp only [castL_self] at h0
    try simp only [Int.toNat_natCast] at h0
    try simp only [Int.toNat_zero] at h0
    have hl1 : l.length = 1 := by omega
    refine AWPD.seq fun K4 hK4 => ?_
    -- region 2
    refine AWPD.keep [1] rfl ?_
    refine AWPD.region tabOK rfl ?_
    repeat refine And.intro (by first | exact fun h => h | exact fun _ => rfl | (intro h; rw [h]; rfl) | omega | (intros; (try dsimp only [Ty.T, Ty.size]); (try simp only [castL_self, Int.toNat_natCast, Int.toNat_zero, Int.toNat_one, true_and, List.length_append, List.length_set, List.length_drop, List.length_take, List.length_replicate, List.length_cons, List.length_nil, Nat.zero_add, Nat.mul_one]); omega) | decide | (intros; simp_all; done) | (intros; simp_all; omega)) ?_
    refine hK4 _ _ ?_
    clear hK4
    refine AWPD.ret (And.intro (.inl rfl) ?_)
    -- result 0
    refine RetD.one ?_
    exact fitI rfl (nev_one g hl1 x).symm
  · try dsimp only [Ty.T] at h0
    try simp only [castL_self] at h0
    try simp only [Int.toNat_natCast] at h0
    try simp only [Int.toNat_zero] at h0
    have hl2 : 2 ≤ l.length := by omega
    have ga := g.at_ 0 (by omega)
    have gb := g.at_ (l.length - 1) (by omega)
    have e1 : ((l.length : Int) - 1).toNat = l.length - 1 := by omega
    have lR : (l.drop 1).length = l.length - 1 := by simp
    have lL : (l.take (l.length - 1)).length = l.length - 1 := by rw [List.length_take]; omega
    have gR : GoodS p (l.drop 1) := g.sub (List.drop_sublist _ _) (by omega)
    have gL : GoodS p (l.take (l.length - 1)) := g.sub (List.take_sublist _ _) (by omega)
    have iR := nevV_in g1 (l.drop 1) x
    have iL := nevV_in g1 (l.take (l.length - 1)) x
    have mR := mul_b (a := x - (l.getD 0 (0, 0)).1) (b := (nevV p (l.drop 1) x)) (by omega) (by omega)
    have mL := mul_b (a := x - (l.getD (l.length - 1) (0, 0)).1) (b := (nevV p (l.take (l.length - 1)) x)) (by omega) (by omega)
    have htm := tmod_in (a := (x - (l.getD 0 (0, 0)).1) * (nevV p (l.drop 1) x) - (x - (l.getD (l.length - 1) (0, 0)).1) * (nevV p (l.take (l.length - 1)) x)) g1
    have hA := mod_in g1 ((((x - (l.getD 0 (0, 0)).1) * (nevV p (l.drop 1) x) - (x - (l.getD (l.length - 1) (0, 0)).1) * (nevV p (l.take (l.length - 1)) x)).tmod p) + p)
    have hB := mod_in g1 ((l.getD (l.length - 1) (0, 0)).1 - (l.getD 0 (0, 0)).1 + p)
    have hfr : Frac p (((((x - (l.getD 0 (0, 0)).1) * (nevV p (l.drop 1) x) - (x - (l.getD (l.length - 1) (0, 0)).1) * (nevV p (l.take (l.length - 1)) x)).tmod p) + p) % p) (((l.getD (l.length - 1) (0, 0)).1 - (l.getD 0 (0, 0)).1 + p) % p) (nevV p l x) := by
      obtain ⟨c, hc⟩ := htm.2.2
      obtain ⟨m1, hm1⟩ := mod_dvd p ((((x - (l.getD 0 (0, 0)).1) * (nevV p (l.drop 1) x) - (x - (l.getD (l.length - 1) (0, 0)).1) * (nevV p (l.take (l.length - 1)) x)).tmod p) + p)
      obtain ⟨m2, hm2⟩ := mod_dvd p ((l.getD (l.length - 1) (0, 0)).1 - (l.getD 0 (0, 0)).1 + p)
      exact nev_frac g hl2 (x := x) ⟨m1 + 1 + c, by grind⟩ ⟨m2 + 1, by grind⟩
    refine AWPD.skip ?_
    refine hK2 _ _ ?_
    clear hK2
    refine AWPD.seq fun K5 hK5 => ?_
    -- region 3
    refine AWPD.keep [0, 1, 2] rfl ?_
    refine AWPD.region tabOK rfl ?_
    repeat refine And.intro (by first | exact fun h => h | exact fun _ => rfl | (intro h; rw [h]; rfl) | omega | (intros; (try dsimp only [Ty.T, Ty.size]); (try simp only [castL_self, Int.toNat_natCast, Int.toNat_zero, Int.toNat_one, true_and, List.length_append, List.length_set, List.length_drop, List.length_take, List.length_replicate, List.length_cons, List.length_nil, Nat.zero_add, Nat.mul_one]); omega) | decide | (intros; simp_all; done) | (intros; simp_all; omega)) ?_
    refine hK5 _ _ ?_
    clear hK5
    refine AWPD.seq fun K6 hK6 => ?_
    -- region 4
    refine AWPD.keep [0, 1, 2, 7] rfl ?_
    refine AWPD.region tabOK rfl ?_
    repeat refine And.intro (by first | exact fun h => h | omega | (intros; omega)) ?_
    refine hK6 _ _ ?_
    clear hK6
    refine AWPD.seq fun K7 hK7 => ?_
    -- region 5
    try rw [e1]
    refine AWPD.keep [0, 1, 2, 7, 8] rfl ?_
    refine AWPD.region tabOK rfl ?_
    repeat refine And.intro (by first | exact fun h => h | exact fun _ => rfl | (intro h; rw [h]; rfl) | omega | (intros; (try dsimp only [Ty.T, Ty.size]); (try simp only [castL_self, Int.toNat_natCast, Int.toNat_zero, Int.toNat_one, true_and, List.length_append, List.length_set, List.length_drop, List.length_take, List.length_replicate, List.length_cons, List.length_nil, Nat.zero_add, Nat.mul_one]); omega) | decide | (intros; simp_all; done) | (intros; simp_all; omega)) ?_
    refine Exists.intro _ (Exists.intro _ (And.intro (StepD.call (ih (l.take ((l.length : Int) - 1).toNat) (by rw [e1]; omega) (by rw [e1]; exact gL)) rfl rfl rfl) (And.intro rfl (And.intro trivial ?_))))
    refine hK7 _ _ ?_
    clear hK7
    refine AWPD.seq fun K8 hK8 => ?_
    -- region 6
    refine AWPD.keep [0, 1, 2, 7, 8, 9] rfl ?_
    refine AWPD.region tabOK rfl ?_
    repeat refine And.intro (by first | exact fun h => h | exact fun _ => rfl | (intro h; rw [h]; rfl) | omega | (intros; (try dsimp only [Ty.T, Ty.size]); (try simp only [castL_self, Int.toNat_natCast, Int.toNat_zero, Int.toNat_one, true_and, List.length_append, List.length_set, List.length_drop, List.length_take, List.length_replicate, List.length_cons, List.length_nil, Nat.zero_add, Nat.mul_one]); omega) | decide | (intros; simp_all; done) | (intros; simp_all; omega)) ?_
    refine Exists.intro _ (Exists.intro _ (And.intro (StepD.call (ih (l.drop 1) (by omega) gR) rfl rfl rfl) (And.intro rfl (And.intro trivial ?_))))
    refine hK8 _ _ ?_
    clear hK8
    refine AWPD.seq fun K9 hK9 => ?_
    -- region 7
    try rw [e1]
    refine AWPD.asU 0 rfl ?_
    refine AWPD.keep [0, 2, 7, 8, 9, 10] rfl ?_
    refine AWPD.region tabOK rfl ?_
    repeat refine And.intro (by first | exact fun h => h | exact fun _ => rfl | (intro h; rw [h]; rfl) | omega | (intros; (try dsimp only [Ty.T, Ty.size]); (try simp only [castL_self, Int.toNat_natCast, Int.toNat_zero, Int.toNat_one, true_and, List.length_append, List.length_set, List.length_drop, List.length_take, List.length_replicate, List.length_cons, List.length_nil, Nat.zero_add, Nat.mul_one]); omega) | decide | (intros; simp_all; done) | (intros; simp_all; omega)) ?_
    refine Exists.intro _ (Exists.intro _ (And.intro (rem_step (a := (x - (l.getD 0 (0, 0)).1) * (nevV p (l.drop 1) x) - (x - (l.getD (l.length - 1) (0, 0)).1) * (nevV p (l.take (l.length - 1)) x)) (b := p) rfl rfl (by omega)) (And.intro rfl (And.intro trivial ?_))))
    refine hK9 _ _ ?_
    clear hK9
    refine AWPD.seq fun K10 hK10 => ?_
    -- region 8
    refine AWPD.asI 0 rfl ?_
    refine AWPD.keep [0, 7, 8, 11] rfl ?_
    refine AWPD.draw tabOK [] rfl (by kernel_rfl) ?_
    repeat refine And.intro (by first | exact fun h => h | exact fun _ => rfl | (intro h; rw [h]; rfl) | omega | (intros; (try dsimp only [Ty.T, Ty.size]); (try simp only [castL_self, Int.toNat_natCast, Int.toNat_zero, Int.toNat_one, true_and, List.length_append, List.length_set, List.length_drop, List.length_take, List.length_replicate, List.length_cons, List.length_nil, Nat.zero_add, Nat.mul_one]); omega) | decide | (intros; simp_all; done) | (intros; simp_all; omega)) ?_
    refine Exists.intro _ (Exists.intro _ (And.intro (StepD.call (over_fn p (((((x - (l.getD 0 (0, 0)).1) * (nevV p (l.drop 1) x) - (x - (l.getD (l.length - 1) (0, 0)).1) * (nevV p (l.take (l.length - 1)) x)).tmod p) + p) % p) (((l.getD (l.length - 1) (0, 0)).1 - (l.getD 0 (0, 0)).1 + p) % p) (nevV p l x) (by omega) hA hB hfr) rfl rfl rfl) (And.intro rfl (And.intro rfl ?_))))
    refine hK10 _ _ ?_
    clear hK10
    refine AWPD.ret (And.intro (.inl rfl) ?_)
    -- result 1
    refine RetD.one ?_
    exact fitI rfl rfl
end Go.Proofs.YtdikoipldcjcpaaDoor
