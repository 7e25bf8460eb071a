/-
  WALKS of groups of things that are joined pair by pair, and of their names; what a group's first one is. Laid by a program of mine out of the operations, with the loops and results told by hand.
-/
import Derived.Test.YtkncfjcmhaaafaaQwQu
namespace Go.Proofs.Ytkncfjcmhaaafaa
open Go Go.Qw
set_option maxRecDepth 10000
set_option linter.unusedSimpArgs false
set_option linter.unusedVariables false
set_option linter.unusedSectionVars false


structure UF (g : List Int) : Prop where
  le : ∀ k, k < g.length → 0 ≤ g.getD k 0 ∧ g.getD k 0 ≤ (k : Int)
def rt (g : List Int) : Nat → Nat → Nat
  | 0, k => k
  | f + 1, k => if (g.getD k 0).toNat < k then rt g f (g.getD k 0).toNat else k
def root (g : List Int) (k : Nat) : Nat := rt g k k
theorem rt_enough (g : List Int) : ∀ (k f : Nat), k ≤ f → rt g f k = rt g k k := by
  intro k
  induction k using Nat.strongRecOn with
  | _ k ih =>
    intro f hf
    cases k with
    | zero =>
      cases f with
      | zero => rfl
      | succ f => simp [rt]
    | succ m =>
      cases f with
      | zero => omega
      | succ f =>
        simp only [rt]
        split
        · rename_i h
          rw [ih _ h f (by omega), ih _ h m (by omega)]
        · rfl
theorem root_step (g : List Int) (k : Nat) : root g k = if (g.getD k 0).toNat < k then root g (g.getD k 0).toNat else k := by
  unfold root
  cases k with
  | zero => simp [rt]
  | succ m =>
    rw [rt]
    split
    · rename_i h
      rw [rt_enough g _ m (by omega)]
    · rfl
theorem root_le (g : List Int) : ∀ k, root g k ≤ k := by
  intro k
  induction k using Nat.strongRecOn with
  | _ k ih =>
    rw [root_step]
    split
    · rename_i h
      have := ih _ h
      omega
    · omega
theorem root_stop (g : List Int) : ∀ k, ¬(g.getD (root g k) 0).toNat < root g k := by
  intro k
  induction k using Nat.strongRecOn with
  | _ k ih =>
    rw [root_step]
    split
    · rename_i h; exact ih _ h
    · assumption
theorem root_root (g : List Int) (k : Nat) : root g (root g k) = root g k := by
  rw [root_step g (root g k), if_neg (root_stop g k)]
theorem root_own {g : List Int} (u : UF g) {k : Nat} (hk : k < g.length) (h : g.getD k 0 = (k : Int)) : root g k = k := by
  rw [root_step, if_neg (by omega)]
theorem set_get {g : List Int} {i k : Nat} {v : Int} (hi : i < g.length) : (g.set i v).getD k 0 = if k = i then v else g.getD k 0 := by
  simp only [List.getD, List.getElem?_set]
  by_cases h : i = k
  · subst h; simp [hi]
  · rw [if_neg h, if_neg (fun e => h e.symm)]
/-- A way made shorter leads to the same. -/
theorem halve_root {g : List Int} (u : UF g) {i : Nat} (hi : i < g.length) : ∀ k, root (g.set i (g.getD (g.getD i 0).toNat 0)) k = root g k := by
  intro k
  induction k using Nat.strongRecOn with
  | _ k ih =>
    have hgi := u.le i hi
    have hv := u.le (g.getD i 0).toNat (by omega)
    rw [root_step (g.set i _), root_step g k, set_get hi]
    by_cases hk : k = i
    · subst hk
      rw [if_pos rfl]
      by_cases h1 : (g.getD k 0).toNat < k
      · rw [if_pos (by omega), if_pos h1, ih _ (by omega), root_step g (g.getD k 0).toNat]
        split
        · rfl
        · rename_i h2
          rw [show (g.getD (g.getD k 0).toNat 0).toNat = (g.getD k 0).toNat by omega, root_step, if_neg h2]
      · have e : (g.getD k 0).toNat = k := by omega
        rw [if_neg h1, if_neg (by rw [e]; omega)]
    · rw [if_neg hk]
      split
      · rename_i h; exact ih _ h
      · rfl
theorem halve_uf {g : List Int} (u : UF g) {i : Nat} (hi : i < g.length) : UF (g.set i (g.getD (g.getD i 0).toNat 0)) := by
  have hgi := u.le i hi
  have hv := u.le (g.getD i 0).toNat (by omega)
  refine ⟨fun k hk => ?_⟩
  rw [List.length_set] at hk
  rw [set_get hi]
  split
  · rename_i h; subst h; omega
  · exact u.le k hk
def fnd : Nat → List Int → Int → List Int × Int
  | 0, g, i => (g, i)
  | f + 1, g, i => if g.getD i.toNat 0 ≠ i then fnd f (g.set i.toNat (g.getD (g.getD i.toNat 0).toNat 0)) (g.getD (g.getD i.toNat 0).toNat 0) else (g, i)
structure Fnd (g : List Int) (i : Int) (s : List Int × Int) : Prop where
  uf : UF s.1
  len : s.1.length = g.length
  same : ∀ k, root s.1 k = root g k
  is_ : s.2 = (root g i.toNat : Int)
theorem fnd_ok : ∀ (f : Nat) (g : List Int) (i : Int), UF g → 0 ≤ i → i.toNat < g.length → i.toNat < f → Fnd g i (fnd f g i)
  | f + 1, g, i, u, h0, hl, hf => by
    have hgi := u.le i.toNat hl
    unfold fnd
    split
    · rename_i hne
      have hv := u.le (g.getD i.toNat 0).toNat (by omega)
      have ih := fnd_ok f _ (g.getD (g.getD i.toNat 0).toNat 0) (halve_uf u hl) (by omega) (by rw [List.length_set]; omega) (by omega)
      refine ⟨ih.uf, by rw [ih.len, List.length_set], fun k => by rw [ih.same, halve_root u hl], ?_⟩
      rw [ih.is_, halve_root u hl]
      have e : root g i.toNat = root g (g.getD (g.getD i.toNat 0).toNat 0).toNat := by
        rw [root_step g i.toNat, if_pos (by omega), root_step g (g.getD i.toNat 0).toNat]
        split
        · rfl
        · rename_i h2
          rw [show (g.getD (g.getD i.toNat 0).toNat 0).toNat = (g.getD i.toNat 0).toNat by omega, root_step, if_neg h2]
      rw [e]
    · rename_i he
      exact ⟨u, rfl, fun _ => rfl, by rw [root_own u hl (by omega)]; omega⟩
def findG (g : List Int) (i : Int) : List Int × Int := fnd (i.toNat + 1) g i
theorem findG_ok {g : List Int} {i : Int} (u : UF g) (h0 : 0 ≤ i) (hl : i.toNat < g.length) : Fnd g i (findG g i) := fnd_ok _ g i u h0 hl (by omega)
theorem fnd_go {f : Nat} {g : List Int} {i : Int} (h : g.getD i.toNat 0 ≠ i) : fnd (f + 1) g i = fnd f (g.set i.toNat (g.getD (g.getD i.toNat 0).toNat 0)) (g.getD (g.getD i.toNat 0).toNat 0) := by rw [fnd, if_pos h]
theorem fnd_end {f : Nat} {g : List Int} {i : Int} (h : ¬g.getD i.toNat 0 ≠ i) (hf : 0 < f) : fnd f g i = (g, i) := by
  cases f with
  | zero => omega
  | succ f => rw [fnd, if_neg h]
theorem getD_set_self {g : List Int} {i : Nat} {v : Int} (h : i < g.length) : (g.set i v).getD i 0 = v := by rw [set_get h, if_pos rfl]


/-- Two groups joined. -/
def joinG (g : List Int) (i j : Int) : List Int × Bool :=
  if (findG g i).2 = (findG (findG g i).1 j).2 then ((findG (findG g i).1 j).1, false)
  else ((findG (findG g i).1 j).1.set (if (findG g i).2 < (findG (findG g i).1 j).2 then (findG (findG g i).1 j).2 else (findG g i).2).toNat (if (findG (findG g i).1 j).2 < (findG g i).2 then (findG (findG g i).1 j).2 else (findG g i).2), true)
theorem joinG_same {g : List Int} {i j : Int} (h : (findG g i).2 = (findG (findG g i).1 j).2) : joinG g i j = ((findG (findG g i).1 j).1, false) := by unfold joinG; rw [if_pos h]
theorem joinG_two {g : List Int} {i j : Int} (h : ¬(findG g i).2 = (findG (findG g i).1 j).2) : joinG g i j = ((findG (findG g i).1 j).1.set (if (findG g i).2 < (findG (findG g i).1 j).2 then (findG (findG g i).1 j).2 else (findG g i).2).toNat (if (findG (findG g i).1 j).2 < (findG g i).2 then (findG (findG g i).1 j).2 else (findG g i).2), true) := by unfold joinG; rw [if_neg h]


structure Joined (g : List Int) (i j : Int) (h : List Int) : Prop where
  uf : UF h
  len : h.length = g.length
  roots : ∀ k, root h k = if root g k = max (root g i.toNat) (root g j.toNat) then min (root g i.toNat) (root g j.toNat) else root g k
theorem join_root {g : List Int} (u : UF g) {a b : Nat} (hb : b < g.length) (hab : a < b) (ra : root g a = a) (rb : root g b = b) : UF (g.set b (a : Int)) ∧ ∀ k, root (g.set b (a : Int)) k = if root g k = b then a else root g k := by
  constructor
  · refine ⟨fun k hk => ?_⟩
    rw [List.length_set] at hk
    rw [set_get hb]
    split
    · omega
    · exact u.le k hk
  · intro k
    induction k using Nat.strongRecOn with
    | _ k ih =>
      rw [root_step (g.set b _), set_get hb]
      by_cases hk : k = b
      · subst hk
        rw [if_pos rfl, Int.toNat_natCast, if_pos hab, ih a hab, ra, rb, if_pos rfl, if_neg (by omega)]
      · rw [if_neg hk, root_step g k]
        by_cases h : (g.getD k 0).toNat < k
        · rw [if_pos h, if_pos h, ih _ h]
        · rw [if_neg h, if_neg h, if_neg hk]
theorem joinG_ok {g : List Int} {i j : Int} (u : UF g) (h0 : 0 ≤ i) (hl : i.toNat < g.length) (h0j : 0 ≤ j) (hlj : j.toNat < g.length) : Joined g i j (joinG g i j).1 ∧ (joinG g i j).2 = decide (root g i.toNat ≠ root g j.toNat) := by
  have f1 := findG_ok u h0 hl
  have f2 := findG_ok f1.uf h0j (by rw [f1.len]; exact hlj)
  have e1 := f1.is_
  have e2 := f2.is_
  rw [f1.same] at e2
  have r1 := root_le g i.toNat
  have r2 := root_le g j.toNat
  by_cases h : (findG g i).2 = (findG (findG g i).1 j).2
  · rw [joinG_same h]
    have he : root g i.toNat = root g j.toNat := by omega
    refine ⟨⟨f2.uf, by rw [f2.len, f1.len], fun k => ?_⟩, by simp [he]⟩
    rw [f2.same, f1.same, he]
    split
    · rename_i hk; rw [hk]; omega
    · rfl
  · rw [joinG_two h]
    have hne : root g i.toNat ≠ root g j.toNat := fun e => h (by omega)
    have s2 : ∀ k, root (findG (findG g i).1 j).1 k = root g k := fun k => by rw [f2.same, f1.same]
    have hlen : (findG (findG g i).1 j).1.length = g.length := by rw [f2.len, f1.len]
    rcases Nat.lt_or_gt_of_ne hne with hlt | hgt
    · have jr := join_root (a := root g i.toNat) (b := root g j.toNat) f2.uf (by omega) hlt (by rw [s2, root_root]) (by rw [s2, root_root])
      have ev : (if (findG (findG g i).1 j).2 < (findG g i).2 then (findG (findG g i).1 j).2 else (findG g i).2) = ((root g i.toNat : Nat) : Int) := by rw [if_neg (by omega)]; omega
      have ek : (if (findG g i).2 < (findG (findG g i).1 j).2 then (findG (findG g i).1 j).2 else (findG g i).2).toNat = root g j.toNat := by rw [if_pos (by omega)]; omega
      rw [ev, ek]
      refine ⟨⟨jr.1, by rw [List.length_set, hlen], fun k => ?_⟩, by simp [hne]⟩
      rw [jr.2, s2, Nat.max_eq_right (by omega), Nat.min_eq_left (by omega)]
    · have jr := join_root (a := root g j.toNat) (b := root g i.toNat) f2.uf (by omega) hgt (by rw [s2, root_root]) (by rw [s2, root_root])
      have ev : (if (findG (findG g i).1 j).2 < (findG g i).2 then (findG (findG g i).1 j).2 else (findG g i).2) = ((root g j.toNat : Nat) : Int) := by rw [if_pos (by omega)]; omega
      have ek : (if (findG g i).2 < (findG (findG g i).1 j).2 then (findG (findG g i).1 j).2 else (findG g i).2).toNat = root g i.toNat := by rw [if_neg (by omega)]; omega
      rw [ev, ek]
      refine ⟨⟨jr.1, by rw [List.length_set, hlen], fun k => ?_⟩, by simp [hne]⟩
      rw [jr.2, s2, Nat.max_eq_left (by omega), Nat.min_eq_right (by omega)]
/-- Who were of one group are so still; who are joined are. -/
theorem Joined.keep {g h : List Int} {i j : Int} (J : Joined g i j h) {a b : Nat} (e : root g a = root g b) : root h a = root h b := by rw [J.roots, J.roots, e]
theorem Joined.both {g h : List Int} {i j : Int} (J : Joined g i j h) : root h i.toNat = root h j.toNat := by
  rw [J.roots, J.roots]
  split <;> split <;> omega
theorem Joined.least {g h : List Int} {i j : Int} (J : Joined g i j h) {c : Nat → Nat} (hc : ∀ k, k < g.length → c (root g k) = c k) (hij : c i.toNat = c j.toNat) (hi : i.toNat < g.length) (hj : j.toNat < g.length) : ∀ k, k < h.length → c (root h k) = c k := by
  intro k hk
  rw [J.len] at hk
  have h1 := hc _ hi
  have h2 := hc _ hj
  rw [J.roots]
  split
  · rename_i he
    rw [← hc k hk, he]
    rcases Nat.le_total (root g i.toNat) (root g j.toNat) with h | h
    · rw [Nat.min_eq_left h, Nat.max_eq_right h, h1, h2, hij]
    · rw [Nat.min_eq_right h, Nat.max_eq_left h, h1, h2, hij]
  · exact hc k hk
def idG (n : Nat) : List Int := (List.range n).map fun k : Nat => (k : Int)
theorem idG_len (n : Nat) : (idG n).length = n := by simp [idG]
theorem idG_get {n k : Nat} (h : k < n) : (idG n).getD k 0 = (k : Int) := by simp [idG, List.getD, h]
theorem idG_uf (n : Nat) : UF (idG n) := ⟨fun k hk => by rw [idG_len] at hk; rw [idG_get hk]; omega⟩
theorem idG_root {n k : Nat} (h : k < n) : root (idG n) k = k := root_own (idG_uf n) (by rw [idG_len]; exact h) (idG_get h)
def idP (n i : Nat) : List Int := (List.range n).map fun k : Nat => if k < i then (k : Int) else 0
theorem idP_zero (n : Nat) : List.replicate n (0 : Int) = idP n 0 := by
  unfold idP
  refine List.ext_getElem (by simp) fun k h1 h2 => by simp
theorem idP_step {n i : Nat} (h : i < n) : (idP n i).set i (i : Int) = idP n (i + 1) := by
  unfold idP
  refine List.ext_getElem (by simp) fun k h1 h2 => ?_
  simp only [List.getElem_set, List.getElem_map, List.getElem_range]
  by_cases hk : i = k
  · subst hk; simp
  · rw [if_neg hk]
    by_cases h3 : k < i
    · rw [if_pos h3, if_pos (by omega)]
    · rw [if_neg h3, if_neg (by omega)]
theorem idP_all (n : Nat) : idP n n = idG n := by
  unfold idP idG
  refine List.ext_getElem (by simp) fun k h1 h2 => ?_
  simp only [List.getElem_map, List.getElem_range]
  rw [if_pos (by simpa using h1)]
theorem idP_len (n i : Nat) : (idP n i).length = n := by simp [idP]


/-- What is found of a row, so far; its numbering. -/
def qAt (τ : Ty) (l : List τ.T) : Nat → List τ.T
  | 0 => []
  | i + 1 => qAdd τ (List.getD l i (dT τ)) (qAt τ l i)
def numQ (τ : Ty) (l : List τ.T) (i : Nat) : List Int := (List.range i).map fun j => qIdx τ (List.getD l j (dT τ)) (qAt τ l j)
theorem qAt_len (τ : Ty) (l : List τ.T) : ∀ i, (qAt τ l i).length ≤ i
  | 0 => by simp [qAt]
  | i + 1 => by
    have := qAt_len τ l i
    unfold qAt qAdd
    split
    · omega
    · rw [List.length_append]; simp; omega
theorem numQ_len (τ : Ty) (l : List τ.T) (i : Nat) : (numQ τ l i).length = i := by simp [numQ]
theorem numQ_step (τ : Ty) (l : List τ.T) (i : Nat) : numQ τ l i ++ [qIdx τ (List.getD l i (dT τ)) (qAt τ l i)] = numQ τ l (i + 1) := by
  unfold numQ
  rw [List.range_succ, List.map_append]; rfl
theorem numQ_get (τ : Ty) (l : List τ.T) {i j : Nat} (h : j < i) : (numQ τ l i).getD j 0 = qIdx τ (List.getD l j (dT τ)) (qAt τ l j) := by simp [numQ, List.getD, h]
/-- As the numbering is laid into a row made beforehand. -/
def numP (τ : Ty) (l : List τ.T) (n i : Nat) : List Int := numQ τ l i ++ List.replicate (n - i) 0
theorem numP_step (τ : Ty) (l : List τ.T) {n i : Nat} (h : i < n) : (numP τ l n i).set i (qIdx τ (List.getD l i (dT τ)) (qAt τ l i)) = numP τ l n (i + 1) := by
  unfold numP
  rw [← numQ_step, List.set_append_right _ _ (by rw [numQ_len]; omega), numQ_len, Nat.sub_self, show n - i = (n - (i + 1)) + 1 by omega, List.replicate_succ, List.set_cons_zero, List.append_assoc]
  rfl
theorem numP_len (τ : Ty) (l : List τ.T) {n i : Nat} (h : i ≤ n) : (numP τ l n i).length = n := by
  unfold numP
  rw [List.length_append, numQ_len, List.length_replicate]; omega
theorem numP_all (τ : Ty) (l : List τ.T) (n : Nat) : numP τ l n n = numQ τ l n := by simp [numP]
def gN (g : List Int) : Nat → List Int
  | 0 => g
  | i + 1 => (findG (gN g i) (i : Int)).1
def rootsL (g : List Int) : List Int := (List.range g.length).map fun k : Nat => ((root g k : Nat) : Int)
theorem rootsL_get {g : List Int} {k : Nat} (h : k < g.length) : (rootsL g).getD k 0 = ((root g k : Nat) : Int) := by simp [rootsL, List.getD, h]
theorem gN_ok {g : List Int} (u : UF g) : ∀ i, i ≤ g.length → UF (gN g i) ∧ (gN g i).length = g.length ∧ ∀ k, root (gN g i) k = root g k
  | 0, _ => ⟨u, rfl, fun _ => rfl⟩
  | i + 1, h => by
    obtain ⟨h1, h2, h3⟩ := gN_ok u i (by omega)
    have f := findG_ok h1 (i := (i : Int)) (by omega) (by rw [h2]; omega)
    exact ⟨f.uf, by rw [gN, f.len, h2], fun k => by rw [gN, f.same, h3]⟩
theorem gN_val {g : List Int} (u : UF g) {i : Nat} (h : i < g.length) : (findG (gN g i) (i : Int)).2 = (rootsL g).getD i 0 := by
  obtain ⟨h1, h2, h3⟩ := gN_ok u i (by omega)
  have f := findG_ok h1 (i := (i : Int)) (by omega) (by rw [h2]; omega)
  rw [f.is_, h3, rootsL_get h, Int.toNat_natCast]
def namesG (g : List Int) : List Int := numQ .int (rootsL g) g.length

end Go.Proofs.Ytkncfjcmhaaafaa
