/-
  WALKS of anon: what is wrong with rows and heights, a row blurred. Laid by a program of mine out of the operations, with the loops and results told by hand.
-/
import Derived.Test.YtmeacgkhabnjlaaDoorQwBa
import Derived.Test.YtmeacgkhabnjlaaDoorQwNx
namespace Go.Proofs.YtmeacgkhabnjlaaDoor
open Go Go.Qw
set_option maxRecDepth 10000
set_option linter.unusedSimpArgs false
set_option linter.unusedVariables false
set_option linter.unusedSectionVars false


/-- The first of some faults. -/
def fE (f : Nat → Int) : Nat → Int
  | 0 => 0
  | i + 1 => if fE f i ≠ 0 then fE f i else f i
theorem fE_zero {f : Nat → Int} : ∀ {n : Nat}, (∀ i, i < n → f i = 0) → fE f n = 0
  | 0, _ => rfl
  | n + 1, h => by rw [fE, fE_zero (n := n) fun i hi => h i (by omega), if_neg (by simp)]; exact h n (by omega)
theorem fE_of {f : Nat → Int} {n : Nat} (h : fE f n = 0) : ∀ i, i < n → f i = 0 := by
  induction n with
  | zero => intro i hi; omega
  | succ n ih =>
    rw [fE] at h
    split at h
    · rename_i h1; exact absurd h h1
    · rename_i h1
      intro i hi
      by_cases hin : i = n
      · rw [hin]; exact h
      · exact ih (by omega) i (by omega)
theorem fE_stop {f : Nat → Int} {i : Nat} (h : ∀ j, j < i → f j = 0) (hf : f i ≠ 0) : ∀ {n : Nat}, i < n → fE f n = f i
  | n + 1, hn => by
    rw [fE]
    by_cases hin : i = n
    · subst hin
      rw [fE_zero h, if_neg (by simp)]
    · rw [fE_stop h hf (n := n) (by omega), if_pos hf]
/-! ### Rows, blurred -/

def blurP (row hs : List Int) (i : Nat) : List Int := (List.range 3).map fun k => if k < i then row.getD k 0 / ((2 ^ (hs.getD k 0).toNat : Nat) : Int) else 0
def blurL (row hs : List Int) : List Int := blurP row hs row.length
theorem blurP_len (row hs : List Int) (i : Nat) : (blurP row hs i).length = 3 := by simp [blurP]
theorem blurP_zero (row hs : List Int) : [0, 0, 0] = blurP row hs 0 := by simp [blurP, List.range_succ]
theorem blurP_set {row hs : List Int} {i : Nat} (hi : i < 3) {v : Int} (hv : v = row.getD i 0 / ((2 ^ (hs.getD i 0).toNat : Nat) : Int)) : (blurP row hs i).set i v = blurP row hs (i + 1) := by
  subst hv
  unfold blurP
  refine List.ext_getElem (by simp) fun k h1 h2 => ?_
  simp only [List.getElem_set, List.getElem_map, List.getElem_range]
  by_cases h : i = k
  · subst h; rw [if_pos rfl, if_pos (by omega)]
  · rw [if_neg h]
    by_cases h3 : k < i
    · rw [if_pos h3, if_pos (by omega)]
    · rw [if_neg h3, if_neg (by omega)]
theorem blurL_iff {row row' hs hs' : List Int} : blurL row hs = blurL row' hs' ↔ ∀ k, k < 3 → (if k < row.length then row.getD k 0 / ((2 ^ (hs.getD k 0).toNat : Nat) : Int) else 0) = (if k < row'.length then row'.getD k 0 / ((2 ^ (hs'.getD k 0).toNat : Nat) : Int) else 0) := by
  unfold blurL blurP
  constructor
  · intro h k hk
    have := congrArg (fun l : List Int => l.getD k 0) h
    simpa [List.getD, hk] using this
  · intro h
    exact List.map_congr_left fun k hk => h k (List.mem_range.1 hk)
def rowG (n : Nat) (row : List Int) : Int := if row.length ≠ n then 3 else if ∀ k ∈ List.range row.length, 0 ≤ row.getD k 0 ∧ row.getD k 0 ≤ 7 then 0 else 1
def rowsE (t : List (List Int)) : Int := if t.length = 0 then 5 else if 40 < t.length ∨ 3 < (t.getD 0 []).length then 4 else fE (fun i => rowG (t.getD 0 []).length (t.getD i [])) t.length
def heightG (hs : List Int) (i : Nat) : Int := if 0 ≤ hs.getD i 0 ∧ hs.getD i 0 ≤ 3 then 0 else 1
def heightsE (t : List (List Int)) (hs : List Int) : Int := if rowsE t ≠ 0 then rowsE t else if hs.length ≠ (t.getD 0 []).length then 3 else fE (heightG hs) hs.length
structure RowsG (t : List (List Int)) : Prop where
  some : 0 < t.length
  few : t.length ≤ 40
  cols : (t.getD 0 []).length ≤ 3
  len : ∀ i, i < t.length → (t.getD i []).length = (t.getD 0 []).length
  in_ : ∀ i, i < t.length → ∀ k, k < (t.getD 0 []).length → 0 ≤ (t.getD i []).getD k 0 ∧ (t.getD i []).getD k 0 ≤ 7
theorem rowG_zero {n : Nat} {row : List Int} (h : rowG n row = 0) : row.length = n ∧ ∀ k, k < row.length → 0 ≤ row.getD k 0 ∧ row.getD k 0 ≤ 7 := by
  unfold rowG at h
  split at h
  · cases h
  · split at h
    · rename_i h1 h2; exact ⟨by omega, fun k hk => h2 k (List.mem_range.2 hk)⟩
    · cases h
theorem rows_good {t : List (List Int)} (h : rowsE t = 0) : RowsG t := by
  unfold rowsE at h
  split at h
  · cases h
  · split at h
    · cases h
    · have hz := fE_of h
      exact ⟨by omega, by omega, by omega, fun i hi => (rowG_zero (hz i hi)).1, fun i hi k hk => (rowG_zero (hz i hi)).2 k (by rw [(rowG_zero (hz i hi)).1]; exact hk)⟩
structure HeightsG (t : List (List Int)) (hs : List Int) : Prop where
  rows : RowsG t
  ok : rowsE t = 0
  len : hs.length = (t.getD 0 []).length
  in_ : ∀ k, k < hs.length → 0 ≤ hs.getD k 0 ∧ hs.getD k 0 ≤ 3
theorem heights_good {t : List (List Int)} {hs : List Int} (h : heightsE t hs = 0) : HeightsG t hs := by
  unfold heightsE at h
  split at h
  · rename_i h1; exact absurd h h1
  · rename_i h1
    split at h
    · cases h
    · have hz := fE_of h
      exact ⟨rows_good (by omega), by omega, by omega, fun k hk => by
        have := hz k hk
        unfold heightG at this
        split at this
        · assumption
        · cases this⟩
theorem heights_zero {t : List (List Int)} {hs : List Int} (g : HeightsG t hs) : heightsE t hs = 0 := by
  unfold heightsE
  rw [if_neg (fun h => h g.ok), if_neg (fun h => h g.len)]
  exact fE_zero fun k hk => by unfold heightG; rw [if_pos (g.in_ k hk)]

/-! ### How many look alike -/

def keyAt (t : List (List Int)) (hs : List Int) (i : Nat) : List Int := blurL (t.getD i []) hs
def cntTo (t : List (List Int)) (hs q : List Int) : Nat → Nat
  | 0 => 0
  | j + 1 => cntTo t hs q j + if keyAt t hs j = q then 1 else 0
def fewTo (t : List (List Int)) (hs : List Int) : Nat → Nat
  | 0 => t.length
  | i + 1 => min (fewTo t hs i) (cntTo t hs (keyAt t hs i) t.length)
def fewV (t : List (List Int)) (hs : List Int) : Nat := fewTo t hs t.length
section
variable {t : List (List Int)} {hs hs' q q' : List Int}
theorem cntTo_le : ∀ n, cntTo t hs q n ≤ n
  | 0 => Nat.le_refl _
  | n + 1 => by have := cntTo_le n; unfold cntTo; split <;> omega
theorem cntTo_mono : ∀ {n}, (∀ j, j < n → keyAt t hs j = q → keyAt t hs' j = q') → cntTo t hs q n ≤ cntTo t hs' q' n
  | 0, _ => Nat.le_refl _
  | n + 1, h => by
    have ih := cntTo_mono (n := n) fun j hj => h j (by omega)
    have h1 := h n (by omega)
    unfold cntTo
    by_cases hk : keyAt t hs n = q
    · rw [if_pos hk, if_pos (h1 hk)]; omega
    · rw [if_neg hk]; split <;> omega
theorem cntTo_pos {i : Nat} (hk : keyAt t hs i = q) : ∀ {n}, i < n → 1 ≤ cntTo t hs q n
  | n + 1, h => by
    unfold cntTo
    by_cases hin : i = n
    · subst hin; rw [if_pos hk]; omega
    · have := cntTo_pos hk (show i < n by omega); omega
theorem cntTo_all : ∀ {n}, (∀ j, j < n → keyAt t hs j = q) → cntTo t hs q n = n
  | 0, _ => rfl
  | n + 1, h => by rw [cntTo, cntTo_all fun j hj => h j (by omega), if_pos (h n (by omega))]
theorem few_ge {m : Nat} : ∀ {i}, m ≤ fewTo t hs i ↔ m ≤ t.length ∧ ∀ k, k < i → m ≤ cntTo t hs (keyAt t hs k) t.length
  | 0 => ⟨fun h => ⟨h, fun k hk => by omega⟩, fun h => h.1⟩
  | i + 1 => by
    have ih := few_ge (m := m) (i := i)
    rw [fewTo, Nat.le_min, ih]
    constructor
    · rintro ⟨⟨h1, h2⟩, h3⟩
      refine ⟨h1, fun k hk => ?_⟩
      by_cases he : k = i
      · rw [he]; exact h3
      · exact h2 k (by omega)
    · rintro ⟨h1, h2⟩
      exact ⟨⟨h1, fun k hk => h2 k (by omega)⟩, h2 i (by omega)⟩
theorem fewV_ge {m : Nat} : m ≤ fewV t hs ↔ m ≤ t.length ∧ ∀ k, k < t.length → m ≤ cntTo t hs (keyAt t hs k) t.length := few_ge
theorem fewV_le : fewV t hs ≤ t.length := (fewV_ge.1 (Nat.le_refl (fewV t hs))).1
theorem fewV_pos (h : 0 < t.length) : 1 ≤ fewV t hs := fewV_ge.2 ⟨h, fun _ hk => cntTo_pos rfl hk⟩
theorem div_pow {n : Int} {a b : Nat} (h : a ≤ b) : n / ((2 ^ b : Nat) : Int) = n / ((2 ^ a : Nat) : Int) / ((2 ^ (b - a) : Nat) : Int) := by
  rw [Int.ediv_ediv_of_nonneg (Int.natCast_nonneg _), ← Int.natCast_mul, ← Nat.pow_add, show a + (b - a) = b by omega]
/-- Who looks alike does so still when more is blurred. -/
theorem key_mono {i j : Nat} (h : ∀ k, k < 3 → (hs.getD k 0).toNat ≤ (hs'.getD k 0).toNat) (hl : (t.getD i []).length = (t.getD j []).length) (he : keyAt t hs i = keyAt t hs j) : keyAt t hs' i = keyAt t hs' j := by
  unfold keyAt at he ⊢
  rw [blurL_iff] at he ⊢
  intro k hk
  have := he k hk
  rw [hl] at this ⊢
  by_cases h1 : k < (t.getD j []).length
  · rw [if_pos h1, if_pos h1] at this ⊢
    rw [div_pow (h k hk), div_pow (n := (t.getD j []).getD k 0) (h k hk), this]
  · rw [if_neg h1, if_neg h1]
theorem RowsG.few_mono (g : RowsG t) (h : ∀ k, k < 3 → (hs.getD k 0).toNat ≤ (hs'.getD k 0).toNat) : fewV t hs ≤ fewV t hs' := by
  have := fewV_ge.1 (Nat.le_refl (fewV t hs))
  refine fewV_ge.2 ⟨this.1, fun k hk => Nat.le_trans (this.2 k hk) (cntTo_mono fun j hj he => ?_)⟩
  exact key_mono h (by rw [g.len j hj, g.len k hk]) he
theorem RowsG.few_all (g : RowsG t) (h : ∀ k, k < (t.getD 0 []).length → hs.getD k 0 = 3) : fewV t hs = t.length := by
  refine Nat.le_antisymm fewV_le (fewV_ge.2 ⟨Nat.le_refl _, fun k hk => ?_⟩)
  rw [cntTo_all fun j hj => ?_]
  · exact Nat.le_refl _
  · unfold keyAt
    rw [blurL_iff]
    intro c _
    rw [g.len j hj, g.len k hk]
    by_cases h1 : c < (t.getD 0 []).length
    · have a := g.in_ j hj c h1
      have b := g.in_ k hk c h1
      rw [if_pos h1, if_pos h1, h c h1]
      show _ / 8 = _ / 8
      omega
    · rw [if_neg h1, if_neg h1]
end

/-! ### Counts by keys -/

def cntC (t : List (List Int)) (hs : List Int) : Nat → List (List Int × Int)
  | 0 => []
  | i + 1 => bumpC (keyAt t hs i) (cntC t hs i)
/-- Each key once, with how many there are. -/
structure CntOK (f : List Int → Nat) (ys : List (List Int × Int)) : Prop where
  val : ∀ y ∈ ys, y.2 = (f y.1 : Int) ∧ 1 ≤ f y.1
  all : ∀ q, 1 ≤ f q → ∃ y ∈ ys, y.1 = q
  one : (ys.map (·.1)).Nodup
theorem bump_mem {q : List Int} : ∀ {ys : List (List Int × Int)}, ∀ z ∈ bumpC q ys, z ∈ ys ∨ z.1 = q
  | [], z, h => by
    simp only [bumpC, List.mem_singleton] at h
    exact .inr (by rw [h])
  | y :: ys, z, h => by
    unfold bumpC at h
    split at h
    · rename_i he
      rcases List.mem_cons.1 h with h | h
      · exact .inr (by rw [h]; exact he.symm)
      · exact .inl (List.mem_cons_of_mem _ h)
    · rcases List.mem_cons.1 h with h | h
      · exact .inl (by rw [h]; exact List.mem_cons_self ..)
      · rcases bump_mem z h with h | h
        · exact .inl (List.mem_cons_of_mem _ h)
        · exact .inr h
theorem bump_ok {f g : List Int → Nat} {q : List Int} (hg : ∀ x, g x = f x + if q = x then 1 else 0) : ∀ {ys : List (List Int × Int)}, (∀ y ∈ ys, y.2 = (f y.1 : Int) ∧ 1 ≤ f y.1) → (ys.map (·.1)).Nodup → (q ∉ ys.map (·.1) → f q = 0) →
    (∀ y ∈ bumpC q ys, y.2 = (g y.1 : Int) ∧ 1 ≤ g y.1) ∧ ((bumpC q ys).map (·.1)).Nodup ∧ ∀ x, (x ∈ ys.map (·.1) ∨ x = q) → x ∈ (bumpC q ys).map (·.1)
  | [], _, _, h0 => by
    have h0 := h0 (by simp)
    have e : g q = 1 := by rw [hg, if_pos rfl, h0]
    exact ⟨fun y hy => by simp only [bumpC, List.mem_singleton] at hy; subst hy; exact ⟨by show (1 : Int) = _; rw [e]; rfl, by show 1 ≤ g q; omega⟩, by simp [bumpC], fun x hx => by
      rcases hx with hx | hx
      · cases hx
      · subst hx; simp [bumpC]⟩
  | y :: ys, hv, hn, h0 => by
    rw [List.map_cons, List.nodup_cons] at hn
    have hy := hv y (List.mem_cons_self ..)
    unfold bumpC
    split
    · rename_i he
      refine ⟨fun z hz => ?_, by rw [List.map_cons, List.nodup_cons]; exact hn, fun x hx => ?_⟩
      · rcases List.mem_cons.1 hz with hz | hz
        · subst hz
          have e : g y.1 = f y.1 + 1 := by rw [hg, if_pos he]
          exact ⟨by show y.2 + 1 = (g y.1 : Int); rw [e]; omega, by show 1 ≤ g y.1; omega⟩
        · have hz2 := hv z (List.mem_cons_of_mem _ hz)
          have hne : ¬q = z.1 := fun e => hn.1 (by rw [← he, e]; exact List.mem_map_of_mem hz)
          have e : g z.1 = f z.1 := by rw [hg, if_neg hne]; rfl
          rw [e]; exact hz2
      · rcases hx with hx | hx
        · exact hx
        · rw [hx, he]; exact List.mem_cons_self ..
    · rename_i he
      have ih := bump_ok hg (ys := ys) (fun z hz => hv z (List.mem_cons_of_mem _ hz)) hn.2 fun hq => h0 fun hm => by
        rw [List.map_cons] at hm
        rcases List.mem_cons.1 hm with h | h
        · exact he h
        · exact hq h
      refine ⟨fun z hz => ?_, ?_, fun x hx => ?_⟩
      · rcases List.mem_cons.1 hz with hz | hz
        · subst hz
          have e : g z.1 = f z.1 := by rw [hg, if_neg he]; rfl
          rw [e]; exact hy
        · exact ih.1 z hz
      · rw [List.map_cons, List.nodup_cons]
        refine ⟨fun hm => ?_, ih.2.1⟩
        obtain ⟨z, hz, e⟩ := List.mem_map.1 hm
        rcases bump_mem z hz with h | h
        · exact hn.1 (by rw [← e]; exact List.mem_map_of_mem h)
        · exact he (by rw [← h]; exact e)
      · rw [List.map_cons]
        rcases hx with hx | hx
        · rw [List.map_cons] at hx
          rcases List.mem_cons.1 hx with h | h
          · rw [h]; exact List.mem_cons_self ..
          · exact List.mem_cons_of_mem _ (ih.2.2 x (.inl h))
        · exact List.mem_cons_of_mem _ (ih.2.2 x (.inr hx))
theorem cnt_ok (t : List (List Int)) (hs : List Int) : ∀ i, CntOK (fun q => cntTo t hs q i) (cntC t hs i)
  | 0 => ⟨fun y hy => (by cases hy), fun q hq => (by simp [cntTo] at hq), (by simp [cntC])⟩
  | i + 1 => by
    have ih := cnt_ok t hs i
    have h := bump_ok (f := fun q => cntTo t hs q i) (g := fun q => cntTo t hs q (i + 1)) (q := keyAt t hs i) (fun x => rfl) ih.val ih.one fun hq => by
      apply Nat.eq_zero_of_not_pos
      intro hp
      obtain ⟨y, hy, e⟩ := ih.all _ hp
      exact hq (by rw [← e]; exact List.mem_map_of_mem hy)
    refine ⟨h.1, fun q hq => ?_, h.2.1⟩
    have : q ∈ (bumpC (keyAt t hs i) (cntC t hs i)).map (·.1) := h.2.2 q (by
      have hq : 1 ≤ cntTo t hs q i + if keyAt t hs i = q then 1 else 0 := hq
      by_cases he : keyAt t hs i = q
      · exact .inr he.symm
      · rw [if_neg he] at hq
        obtain ⟨y, hy, e⟩ := ih.all q (by show 1 ≤ cntTo t hs q i; omega)
        exact .inl (by rw [← e]; exact List.mem_map_of_mem hy))
    obtain ⟨y, hy, e⟩ := List.mem_map.1 this
    exact ⟨y, hy, e⟩
/-- The least of them. -/
theorem few_least {t : List (List Int)} {hs : List Int} {v : Int} (h1 : v ≤ t.length) (h2 : ∀ y ∈ cntC t hs t.length, v ≤ y.2) (h3 : v = t.length ∨ ∃ y ∈ cntC t hs t.length, v = y.2) : v = (fewV t hs : Int) := by
  have c := cnt_ok t hs t.length
  have hf := fewV_ge.1 (Nat.le_refl (fewV t hs))
  apply Int.le_antisymm
  · obtain ⟨m, rfl⟩ : ∃ m : Nat, v = (m : Int) := ⟨v.toNat, by
      rcases h3 with h | ⟨y, hy, h⟩
      · omega
      · have := c.val y hy; omega⟩
    have : m ≤ fewV t hs := fewV_ge.2 ⟨by omega, fun k hk => by
      obtain ⟨y, hy, e⟩ := c.all (keyAt t hs k) (cntTo_pos rfl hk)
      have a := h2 y hy
      have b := (c.val y hy).1
      rw [e] at b
      have b : y.2 = (cntTo t hs (keyAt t hs k) t.length : Int) := b
      omega⟩
    omega
  · rcases h3 with h | ⟨y, hy, h⟩
    · rw [h]; omega
    · have b := c.val y hy
      have key : ∀ n, 1 ≤ cntTo t hs y.1 n → ∃ k, k < n ∧ keyAt t hs k = y.1 := by
        intro n
        induction n with
        | zero => intro h; simp [cntTo] at h
        | succ n ih =>
          intro h
          by_cases he : keyAt t hs n = y.1
          · exact ⟨n, by omega, he⟩
          · rw [cntTo, if_neg he] at h
            obtain ⟨k, hk, e⟩ := ih (by omega)
            exact ⟨k, by omega, e⟩
      obtain ⟨k, hk, e⟩ := key _ b.2
      have := hf.2 k hk
      rw [e] at this
      rw [h, b.1]
      omega

def noG : World → Prop := fun _ => True
theorem noG_stays : StaysG noG := fun _ _ _ h => h
theorem noG_toD {P : Program} {f : FuncId} {l : List DV} {r : DV} (h : LiftsG P noG f l r) : LiftsD P f l r := ⟨h.1, fun w X V F vs m hv => by
  have hV0 : V = [] := List.eq_nil_of_length_eq_zero (by rw [m.lenV]; rfl)
  have hF0 : F = [] := List.eq_nil_of_length_eq_zero (by rw [m.lenF]; rfl)
  subst hV0 hF0
  exact h.2 w X vs trivial hv⟩
theorem rowG_bad {n : Nat} {row : List Int} {k : Nat} (hl : row.length = n) (hk : k < row.length) (h : ¬(0 ≤ row.getD k 0 ∧ row.getD k 0 ≤ 7)) : rowG n row = 1 := by
  unfold rowG
  rw [if_neg (by omega), if_neg (fun h2 => h (h2 k (List.mem_range.2 hk)))]
theorem rowG_ok {n : Nat} {row : List Int} (hl : row.length = n) (h : ∀ k, k < row.length → 0 ≤ row.getD k 0 ∧ row.getD k 0 ≤ 7) : rowG n row = 0 := by
  unfold rowG
  rw [if_neg (by omega), if_pos (fun k hk => h k (List.mem_range.1 hk))]
theorem rowsE_bad {t : List (List Int)} {i : Nat} (h1 : ¬t.length = 0) (h2 : ¬(40 < t.length ∨ 3 < (t.getD 0 []).length)) (hi : i < t.length) (h : ∀ j, j < i → rowG (t.getD 0 []).length (t.getD j []) = 0) (hb : rowG (t.getD 0 []).length (t.getD i []) ≠ 0) : rowsE t = rowG (t.getD 0 []).length (t.getD i []) := by
  unfold rowsE
  rw [if_neg h1, if_neg h2, fE_stop (f := fun i => rowG (t.getD 0 []).length (t.getD i [])) h hb hi]
theorem rowsE_ok {t : List (List Int)} (h1 : ¬t.length = 0) (h2 : ¬(40 < t.length ∨ 3 < (t.getD 0 []).length)) (h : ∀ j, j < t.length → rowG (t.getD 0 []).length (t.getD j []) = 0) : rowsE t = 0 := by
  unfold rowsE
  rw [if_neg h1, if_neg h2]
  exact fE_zero h
theorem heightsE_bad {t : List (List Int)} {hs : List Int} {i : Nat} (h0 : rowsE t = 0) (hl : hs.length = (t.getD 0 []).length) (hi : i < hs.length) (h : ∀ j, j < i → heightG hs j = 0) (hb : ¬(0 ≤ hs.getD i 0 ∧ hs.getD i 0 ≤ 3)) : heightsE t hs = 1 := by
  have e : heightG hs i = 1 := by unfold heightG; rw [if_neg hb]
  unfold heightsE
  rw [if_neg (fun h => h h0), if_neg (fun h => h hl), fE_stop (f := heightG hs) h (by rw [e]; decide) hi, e]
theorem heightsE_ok {t : List (List Int)} {hs : List Int} (h0 : rowsE t = 0) (hl : hs.length = (t.getD 0 []).length) (h : ∀ j, j < hs.length → heightG hs j = 0) : heightsE t hs = 0 := by
  unfold heightsE
  rw [if_neg (fun h => h h0), if_neg (fun h => h hl)]
  exact fE_zero h

theorem shr_blur {a b : Int} (hb : 0 ≤ b ∧ b ≤ 3) : a.fdiv (2 ^ (min b.toNat 64)) = a / ((2 ^ b.toNat : Nat) : Int) := by
  have h : (2 : Int) ^ b.toNat = ((2 ^ b.toNat : Nat) : Int) := by simp
  rw [Nat.min_eq_left (by omega), h, Int.fdiv_eq_ediv_of_nonneg _ (Int.natCast_nonneg _)]

theorem anCheck_fn (t : List (List Int)) : LiftsD Tryd.prog 20 [.sl (.sl .int) t] (.er 56 (rowsE t)) := by
  refine LiftsD.of_body 48 [.tmp 2] Tryd.func20 rfl Tryd.ntmps20 (by kernel_rfl) rfl rfl fun w0 X0 => ?_
  refine AWPD.seq fun K1 hK1 => ?_
  -- region 0
  refine AWPD.keep [0] rfl ?_
  refine AWPD.region tabOK rfl ?_
  refine hK1 _ _ ?_
  clear hK1
  refine AWPD.seq fun K2 hK2 => ?_
  refine AWPD.seq fun K3 hK3 => ?_
  -- region 1
  refine AWPD.keep [0] rfl ?_
  refine AWPD.region tabOK rfl ?_
  refine hK3 _ _ ?_
  clear hK3
  first | refine AWPD.condP rfl (fun h0 => ?_) (fun h0 => ?_) | refine AWPD.condN rfl (fun h0 => ?_) (fun h0 => ?_) | refine AWPD.condAP rfl (fun h0 => ?_) (fun h0 => ?_) | refine AWPD.condOP rfl (fun h0 => ?_) (fun h0 => ?_) | refine AWPD.condONN rfl (fun h0 => ?_) (fun h0 => ?_) | refine AWPD.condOPN rfl (fun h0 => ?_) (fun h0 => ?_) | refine AWPD.condA rfl (fun h0 => ?_) (fun h0 => ?_) | refine AWPD.condO rfl (fun h0 => ?_) (fun h0 => ?_) | refine AWPD.cond rfl (fun h0 => ?_) (fun h0 => ?_)
  · try dsimp only [Ty.T] at h0
    try simp only [castL_self] at h0
    try simp only [Int.toNat_natCast] at h0
    try simp only [Int.toNat_zero] at h0
    refine AWPD.seq fun K4 hK4 => ?_
    -- region 2
    refine AWPD.keep [] rfl ?_
    refine AWPD.region tabOK rfl ?_
    repeat refine And.intro (by first | exact fun h => h | exact fun _ => rfl | (intro h; rw [h]; rfl) | omega | (intros; (try dsimp only [Ty.T, Ty.size]); (try simp only [castL_self, Int.toNat_natCast, Int.toNat_zero, Int.toNat_one, true_and, List.length_append, List.length_set, List.length_drop, List.length_take, List.length_replicate, List.length_cons, List.length_nil, Nat.zero_add, Nat.mul_one]); omega) | decide | (intros; simp_all; done) | (intros; simp_all; omega)) ?_
    refine hK4 _ _ ?_
    clear hK4
    refine AWPD.ret (And.intro (.inl rfl) ?_)
    -- result 0
    refine RetD.one ?_
    exact fitE rfl (by unfold rowsE; rw [if_pos (by omega)])
  · try dsimp only [Ty.T] at h0
    try simp only [castL_self] at h0
    try simp only [Int.toNat_natCast] at h0
    try simp only [Int.toNat_zero] at h0
    refine AWPD.skip ?_
    refine hK2 _ _ ?_
    clear hK2
    refine AWPD.seq fun K5 hK5 => ?_
    refine AWPD.seq fun K6 hK6 => ?_
    -- region 3
    refine AWPD.keep [0] rfl ?_
    refine AWPD.region tabOK rfl ?_
    repeat refine And.intro (by first | exact fun h => h | exact fun _ => rfl | (intro h; rw [h]; rfl) | omega | (intros; (try dsimp only [Ty.T, Ty.size]); (try simp only [castL_self, Int.toNat_natCast, Int.toNat_zero, Int.toNat_one, true_and, List.length_append, List.length_set, List.length_drop, List.length_take, List.length_replicate, List.length_cons, List.length_nil, Nat.zero_add, Nat.mul_one]); omega) | decide | (intros; simp_all; done) | (intros; simp_all; omega)) ?_
    refine hK6 _ _ ?_
    clear hK6
    first | refine AWPD.condP rfl (fun h1 => ?_) (fun h1 => ?_) | refine AWPD.condN rfl (fun h1 => ?_) (fun h1 => ?_) | refine AWPD.condAP rfl (fun h1 => ?_) (fun h1 => ?_) | refine AWPD.condOP rfl (fun h1 => ?_) (fun h1 => ?_) | refine AWPD.condONN rfl (fun h1 => ?_) (fun h1 => ?_) | refine AWPD.condOPN rfl (fun h1 => ?_) (fun h1 => ?_) | refine AWPD.condA rfl (fun h1 => ?_) (fun h1 => ?_) | refine AWPD.condO rfl (fun h1 => ?_) (fun h1 => ?_) | refine AWPD.cond rfl (fun h1 => ?_) (fun h1 => ?_)
    · try dsimp only [Ty.T] at h1
      try simp only [castL_self] at h1
      try simp only [Int.toNat_natCast] at h1
      try simp only [Int.toNat_zero] at h1
      refine AWPD.seq fun K7 hK7 => ?_
      -- region 4
      refine AWPD.keep [] rfl ?_
      refine AWPD.region tabOK rfl ?_
      repeat refine And.intro (by first | exact fun h => h | exact fun _ => rfl | (intro h; rw [h]; rfl) | omega | (intros; (try dsimp only [Ty.T, Ty.size]); (try simp only [castL_self, Int.toNat_natCast, Int.toNat_zero, Int.toNat_one, true_and, List.length_append, List.length_set, List.length_drop, List.length_take, List.length_replicate, List.length_cons, List.length_nil, Nat.zero_add, Nat.mul_one]); omega) | decide | (intros; simp_all; done) | (intros; simp_all; omega)) ?_
      refine hK7 _ _ ?_
      clear hK7
      refine AWPD.ret (And.intro (.inl rfl) ?_)
      -- result 1
      refine RetD.one ?_
      exact fitE rfl (by unfold rowsE; rw [if_neg (by omega), if_pos (by omega)])
    · try dsimp only [Ty.T] at h1
      try simp only [castL_self] at h1
      try simp only [Int.toNat_natCast] at h1
      try simp only [Int.toNat_zero] at h1
      refine AWPD.skip ?_
      refine hK5 _ _ ?_
      clear hK5
      refine AWPD.seq fun K8 hK8 => ?_
      refine AWPD.seq fun K9 hK9 => ?_
      -- region 5
      refine AWPD.keep [0] rfl ?_
      refine AWPD.region tabOK rfl ?_
      refine hK9 _ _ ?_
      clear hK9
      refine AWPD.block ?_
      -- LOOP 0 live [0, 22, 23, 24] changed [24]
      refine AWPD.loopK (σ := Nat) [0, 22, 23] (fun i base => (24, .i (i : Int)) :: base) (fun _ => []) (fun n i => n + i = t.length ∧ ∀ j, j < i → rowG (t.getD 0 []).length (t.getD j []) = 0) (t.length) 0 [] rfl rfl (⟨by omega, by intro j hj; omega⟩) (by decide) trivial (by repeat' first | exact True.intro | exact rfl | exact ⟨rfl, rfl⟩ | refine And.intro ?_ ?_) fun n0 i hI0 => ?_
      obtain ⟨hn0, hv0⟩ := hI0
      refine AWPD.seq fun K10 hK10 => ?_
      -- region 6
      refine AWPD.keep [0, 22, 23, 24] rfl ?_
      refine AWPD.region tabOK rfl ?_
      refine hK10 _ _ ?_
      clear hK10
      refine AWPD.seq fun K11 hK11 => ?_
      first | refine AWPD.condP rfl (fun h2 => ?_) (fun h2 => ?_) | refine AWPD.condN rfl (fun h2 => ?_) (fun h2 => ?_) | refine AWPD.condAP rfl (fun h2 => ?_) (fun h2 => ?_) | refine AWPD.condOP rfl (fun h2 => ?_) (fun h2 => ?_) | refine AWPD.condONN rfl (fun h2 => ?_) (fun h2 => ?_) | refine AWPD.condOPN rfl (fun h2 => ?_) (fun h2 => ?_) | refine AWPD.condA rfl (fun h2 => ?_) (fun h2 => ?_) | refine AWPD.condO rfl (fun h2 => ?_) (fun h2 => ?_) | refine AWPD.cond rfl (fun h2 => ?_) (fun h2 => ?_)
      · try dsimp only [Ty.T] at h2
        try simp only [castL_self] at h2
        try simp only [Int.toNat_natCast] at h2
        try simp only [Int.toNat_zero] at h2
        refine AWPD.skip ?_
        refine hK11 _ _ ?_
        clear hK11
        refine AWPD.seq fun K12 hK12 => ?_
        refine AWPD.block ?_
        refine AWPD.seq fun K13 hK13 => ?_
        -- region 7
        refine AWPD.keep [0, 22, 23, 24] rfl ?_
        refine AWPD.region tabOK rfl ?_
        repeat refine And.intro (by first | exact fun h => h | exact fun _ => rfl | (intro h; rw [h]; rfl) | omega | (intros; (try dsimp only [Ty.T, Ty.size]); (try simp only [castL_self, Int.toNat_natCast, Int.toNat_zero, Int.toNat_one, true_and, List.length_append, List.length_set, List.length_drop, List.length_take, List.length_replicate, List.length_cons, List.length_nil, Nat.zero_add, Nat.mul_one]); omega) | decide | (intros; simp_all; done) | (intros; simp_all; omega)) ?_
        refine hK13 _ _ ?_
        clear hK13
        refine AWPD.seq fun K14 hK14 => ?_
        refine AWPD.seq fun K15 hK15 => ?_
        -- region 8
        refine AWPD.keep [0, 4, 22, 23, 24] rfl ?_
        refine AWPD.region tabOK rfl ?_
        repeat refine And.intro (by first | exact fun h => h | exact fun _ => rfl | (intro h; rw [h]; rfl) | omega | (intros; (try dsimp only [Ty.T, Ty.size]); (try simp only [castL_self, Int.toNat_natCast, Int.toNat_zero, Int.toNat_one, true_and, List.length_append, List.length_set, List.length_drop, List.length_take, List.length_replicate, List.length_cons, List.length_nil, Nat.zero_add, Nat.mul_one]); omega) | decide | (intros; simp_all; done) | (intros; simp_all; omega)) ?_
        refine hK15 _ _ ?_
        clear hK15
        first | refine AWPD.condP rfl (fun h3 => ?_) (fun h3 => ?_) | refine AWPD.condN rfl (fun h3 => ?_) (fun h3 => ?_) | refine AWPD.condAP rfl (fun h3 => ?_) (fun h3 => ?_) | refine AWPD.condOP rfl (fun h3 => ?_) (fun h3 => ?_) | refine AWPD.condONN rfl (fun h3 => ?_) (fun h3 => ?_) | refine AWPD.condOPN rfl (fun h3 => ?_) (fun h3 => ?_) | refine AWPD.condA rfl (fun h3 => ?_) (fun h3 => ?_) | refine AWPD.condO rfl (fun h3 => ?_) (fun h3 => ?_) | refine AWPD.cond rfl (fun h3 => ?_) (fun h3 => ?_)
        · try dsimp only [Ty.T] at h3
          try simp only [castL_self] at h3
          try simp only [Int.toNat_natCast] at h3
          try simp only [Int.toNat_zero] at h3
          refine AWPD.seq fun K16 hK16 => ?_
          -- region 9
          refine AWPD.keep [] rfl ?_
          refine AWPD.region tabOK rfl ?_
          repeat refine And.intro (by first | exact fun h => h | exact fun _ => rfl | (intro h; rw [h]; rfl) | omega | (intros; (try dsimp only [Ty.T, Ty.size]); (try simp only [castL_self, Int.toNat_natCast, Int.toNat_zero, Int.toNat_one, true_and, List.length_append, List.length_set, List.length_drop, List.length_take, List.length_replicate, List.length_cons, List.length_nil, Nat.zero_add, Nat.mul_one]); omega) | decide | (intros; simp_all; done) | (intros; simp_all; omega)) ?_
          refine hK16 _ _ ?_
          clear hK16
          refine AWPD.ret (And.intro (.inl rfl) ?_)
          -- result 2
          refine RetD.one ?_
          have e : rowG (t.getD 0 []).length (t.getD i []) = 3 := by unfold rowG; rw [if_pos (by omega)]
          exact fitE rfl (by rw [rowsE_bad (by omega) (by omega) (by omega) hv0 (by rw [e]; decide), e])
        · try dsimp only [Ty.T] at h3
          try simp only [castL_self] at h3
          try simp only [Int.toNat_natCast] at h3
          try simp only [Int.toNat_zero] at h3
          have hli : (t.getD i []).length = (t.getD 0 []).length := by omega
          refine AWPD.skip ?_
          refine hK14 _ _ ?_
          clear hK14
          refine AWPD.seq fun K17 hK17 => ?_
          -- region 10
          refine AWPD.keep [0, 4, 22, 23, 24] rfl ?_
          refine AWPD.region tabOK rfl ?_
          refine hK17 _ _ ?_
          clear hK17
          refine AWPD.block ?_
          -- LOOP 1 live [0, 22, 23, 24, 36, 37, 38] changed [38]
          refine AWPD.loopK (σ := Nat) [0, 22, 23, 24, 36, 37] (fun k base => (38, .i (k : Int)) :: base) (fun _ => []) (fun n k => n + k = (t.getD i []).length ∧ ∀ j, j < k → 0 ≤ (t.getD i []).getD j 0 ∧ (t.getD i []).getD j 0 ≤ 7) ((t.getD i []).length) 0 [] rfl rfl (⟨by omega, by intro j hj; omega⟩) (by decide) trivial (by repeat' first | exact True.intro | exact rfl | exact ⟨rfl, rfl⟩ | refine And.intro ?_ ?_) fun n1 k hI1 => ?_
          obtain ⟨hn1, hv1⟩ := hI1
          refine AWPD.seq fun K18 hK18 => ?_
          -- region 11
          refine AWPD.keep [0, 22, 23, 24, 36, 37, 38] rfl ?_
          refine AWPD.region tabOK rfl ?_
          refine hK18 _ _ ?_
          clear hK18
          refine AWPD.seq fun K19 hK19 => ?_
          first | refine AWPD.condP rfl (fun h4 => ?_) (fun h4 => ?_) | refine AWPD.condN rfl (fun h4 => ?_) (fun h4 => ?_) | refine AWPD.condAP rfl (fun h4 => ?_) (fun h4 => ?_) | refine AWPD.condOP rfl (fun h4 => ?_) (fun h4 => ?_) | refine AWPD.condONN rfl (fun h4 => ?_) (fun h4 => ?_) | refine AWPD.condOPN rfl (fun h4 => ?_) (fun h4 => ?_) | refine AWPD.condA rfl (fun h4 => ?_) (fun h4 => ?_) | refine AWPD.condO rfl (fun h4 => ?_) (fun h4 => ?_) | refine AWPD.cond rfl (fun h4 => ?_) (fun h4 => ?_)
          · try dsimp only [Ty.T] at h4
            try simp only [castL_self] at h4
            try simp only [Int.toNat_natCast] at h4
            try simp only [Int.toNat_zero] at h4
            refine AWPD.skip ?_
            refine hK19 _ _ ?_
            clear hK19
            refine AWPD.seq fun K20 hK20 => ?_
            refine AWPD.block ?_
            refine AWPD.seq fun K21 hK21 => ?_
            -- region 12
            refine AWPD.keep [0, 22, 23, 24, 36, 37, 38] rfl ?_
            refine AWPD.region tabOK rfl ?_
            repeat refine And.intro (by first | exact fun h => h | exact fun _ => rfl | (intro h; rw [h]; rfl) | omega | (intros; (try dsimp only [Ty.T, Ty.size]); (try simp only [castL_self, Int.toNat_natCast, Int.toNat_zero, Int.toNat_one, true_and, List.length_append, List.length_set, List.length_drop, List.length_take, List.length_replicate, List.length_cons, List.length_nil, Nat.zero_add, Nat.mul_one]); omega) | decide | (intros; simp_all; done) | (intros; simp_all; omega)) ?_
            refine hK21 _ _ ?_
            clear hK21
            refine AWPD.seq fun K22 hK22 => ?_
            -- region 13
            refine AWPD.keep [0, 6, 22, 23, 24, 36, 37, 38] rfl ?_
            refine AWPD.region tabOK rfl ?_
            refine Exists.intro _ (Exists.intro _ (And.intro (StepD.call (within_fn _ _ _) rfl rfl rfl) (And.intro rfl (And.intro trivial ?_))))
            refine hK22 _ _ ?_
            clear hK22
            first | refine AWPD.cond rfl (fun h5 => ?_) (fun h5 => ?_)
            · try dsimp only [Ty.T] at h5
              try simp only [castL_self] at h5
              try simp only [Int.toNat_natCast] at h5
              try simp only [Int.toNat_zero] at h5
              have h5 : ¬(0 ≤ (t.getD i []).getD k 0 ∧ (t.getD i []).getD k 0 ≤ 7) := fun hh => by rw [decide_eq_true hh] at h5; cases h5
              refine AWPD.seq fun K23 hK23 => ?_
              -- region 14
              refine AWPD.keep [] rfl ?_
              refine AWPD.region tabOK rfl ?_
              repeat refine And.intro (by first | exact fun h => h | exact fun _ => rfl | (intro h; rw [h]; rfl) | omega | (intros; (try dsimp only [Ty.T, Ty.size]); (try simp only [castL_self, Int.toNat_natCast, Int.toNat_zero, Int.toNat_one, true_and, List.length_append, List.length_set, List.length_drop, List.length_take, List.length_replicate, List.length_cons, List.length_nil, Nat.zero_add, Nat.mul_one]); omega) | decide | (intros; simp_all; done) | (intros; simp_all; omega)) ?_
              refine hK23 _ _ ?_
              clear hK23
              refine AWPD.ret (And.intro (.inl rfl) ?_)
              -- result 3
              refine RetD.one ?_
              have e := rowG_bad hli (by omega) h5
              exact fitE rfl (by rw [rowsE_bad (by omega) (by omega) (by omega) hv0 (by rw [e]; decide), e])
            · try dsimp only [Ty.T] at h5
              try simp only [castL_self] at h5
              try simp only [Int.toNat_natCast] at h5
              try simp only [Int.toNat_zero] at h5
              have h5 : 0 ≤ (t.getD i []).getD k 0 ∧ (t.getD i []).getD k 0 ≤ 7 := by simpa using h5
              refine AWPD.skip ?_
              refine hK20 _ _ ?_
              clear hK20
              -- region 15
              refine AWPD.keep [0, 22, 23, 24, 36, 37, 38] rfl ?_
              refine AWPD.region tabOK rfl ?_
              repeat refine And.intro (by first | exact fun h => h | exact fun _ => rfl | (intro h; rw [h]; rfl) | omega | (intros; (try dsimp only [Ty.T, Ty.size]); (try simp only [castL_self, Int.toNat_natCast, Int.toNat_zero, Int.toNat_one, true_and, List.length_append, List.length_set, List.length_drop, List.length_take, List.length_replicate, List.length_cons, List.length_nil, Nat.zero_add, Nat.mul_one]); omega) | decide | (intros; simp_all; done) | (intros; simp_all; omega)) ?_
              refine ⟨n1 - 1, k + 1, [], by omega, ⟨by omega, fun j hj => by
                  rcases Nat.lt_or_ge j k with h | h
                  · exact hv1 j h
                  · rw [show j = k by omega]; exact h5⟩, ⟨by decide, rfl⟩, trivial, ?_⟩
              repeat' first | exact True.intro | exact rfl | exact ⟨rfl, rfl⟩ | refine And.intro ?_ ?_
          · try dsimp only [Ty.T] at h4
            try simp only [castL_self] at h4
            try simp only [Int.toNat_natCast] at h4
            try simp only [Int.toNat_zero] at h4
            refine AWPD.exit ?_
            refine hK12 _ _ ?_
            clear hK12
            -- region 16
            refine AWPD.keep [0, 22, 23, 24] rfl ?_
            refine AWPD.region tabOK rfl ?_
            repeat refine And.intro (by first | exact fun h => h | exact fun _ => rfl | (intro h; rw [h]; rfl) | omega | (intros; (try dsimp only [Ty.T, Ty.size]); (try simp only [castL_self, Int.toNat_natCast, Int.toNat_zero, Int.toNat_one, true_and, List.length_append, List.length_set, List.length_drop, List.length_take, List.length_replicate, List.length_cons, List.length_nil, Nat.zero_add, Nat.mul_one]); omega) | decide | (intros; simp_all; done) | (intros; simp_all; omega)) ?_
            refine ⟨n0 - 1, i + 1, [], by omega, ⟨by omega, fun j hj => by
                rcases Nat.lt_or_ge j i with h | h
                · exact hv0 j h
                · rw [show j = i by omega]; exact rowG_ok hli fun c hc => hv1 c (by omega)⟩, ⟨by decide, rfl⟩, trivial, ?_⟩
            repeat' first | exact True.intro | exact rfl | exact ⟨rfl, rfl⟩ | refine And.intro ?_ ?_
      · try dsimp only [Ty.T] at h2
        try simp only [castL_self] at h2
        try simp only [Int.toNat_natCast] at h2
        try simp only [Int.toNat_zero] at h2
        refine AWPD.exit ?_
        refine hK8 _ _ ?_
        clear hK8
        refine AWPD.seq fun K24 hK24 => ?_
        -- region 17
        refine AWPD.keep [] rfl ?_
        refine AWPD.region tabOK rfl ?_
        refine hK24 _ _ ?_
        clear hK24
        refine AWPD.ret (And.intro (.inl rfl) ?_)
        -- result 4
        refine RetD.one ?_
        exact fitE rfl (rowsE_ok (by omega) (by omega) fun j hj => hv0 j (by omega)).symm
theorem ancheck_fn (t : List (List Int)) (hs : List Int) : LiftsD Tryd.prog 41 [.sl (.sl .int) t, .sl .int hs] (.er 56 (heightsE t hs)) := by
  refine LiftsD.of_body 32 [.tmp 4] Tryd.func41 rfl Tryd.ntmps41 (by kernel_rfl) rfl rfl fun w0 X0 => ?_
  refine AWPD.seq fun K1 hK1 => ?_
  -- region 0
  refine AWPD.keep [0, 1] rfl ?_
  refine AWPD.region tabOK rfl ?_
  refine hK1 _ _ ?_
  clear hK1
  refine AWPD.seq fun K2 hK2 => ?_
  refine AWPD.seq fun K3 hK3 => ?_
  -- region 1
  refine AWPD.keep [0, 1] rfl ?_
  refine AWPD.region tabOK rfl ?_
  refine Exists.intro _ (Exists.intro _ (And.intro (StepD.call (anCheck_fn _) rfl rfl rfl) (And.intro rfl (And.intro trivial ?_))))
  refine hK3 _ _ ?_
  clear hK3
  refine AWPD.seq fun K4 hK4 => ?_
  -- region 2
  refine AWPD.keep [0, 1, 5] rfl ?_
  refine AWPD.region tabOK rfl ?_
  refine hK4 _ _ ?_
  clear hK4
  first | refine AWPD.condP rfl (fun h0 => ?_) (fun h0 => ?_) | refine AWPD.condN rfl (fun h0 => ?_) (fun h0 => ?_) | refine AWPD.condAP rfl (fun h0 => ?_) (fun h0 => ?_) | refine AWPD.condOP rfl (fun h0 => ?_) (fun h0 => ?_) | refine AWPD.condONN rfl (fun h0 => ?_) (fun h0 => ?_) | refine AWPD.condOPN rfl (fun h0 => ?_) (fun h0 => ?_) | refine AWPD.condA rfl (fun h0 => ?_) (fun h0 => ?_) | refine AWPD.condO rfl (fun h0 => ?_) (fun h0 => ?_) | refine AWPD.cond rfl (fun h0 => ?_) (fun h0 => ?_)
  · try dsimp only [Ty.T] at h0
    try simp only [castL_self] at h0
    try simp only [Int.toNat_natCast] at h0
    try simp only [Int.toNat_zero] at h0
    have h0 : rowsE t ≠ 0 := by simpa using h0
    refine AWPD.seq fun K5 hK5 => ?_
    -- region 3
    refine AWPD.keep [5] rfl ?_
    refine AWPD.region tabOK rfl ?_
    refine hK5 _ _ ?_
    clear hK5
    refine AWPD.ret (And.intro (.inl rfl) ?_)
    -- result 0
    refine RetD.one ?_
    exact fitE rfl (by unfold heightsE; rw [if_pos h0])
  · try dsimp only [Ty.T] at h0
    try simp only [castL_self] at h0
    try simp only [Int.toNat_natCast] at h0
    try simp only [Int.toNat_zero] at h0
    have h0 : rowsE t = 0 := by simpa using h0
    have g := rows_good h0
    have gs := g.some
    refine AWPD.skip ?_
    refine hK2 _ _ ?_
    clear hK2
    refine AWPD.seq fun K6 hK6 => ?_
    refine AWPD.seq fun K7 hK7 => ?_
    -- region 4
    refine AWPD.keep [0, 1] rfl ?_
    refine AWPD.region tabOK rfl ?_
    repeat refine And.intro (by first | exact fun h => h | exact fun _ => rfl | (intro h; rw [h]; rfl) | omega | (intros; (try dsimp only [Ty.T, Ty.size]); (try simp only [castL_self, Int.toNat_natCast, Int.toNat_zero, Int.toNat_one, true_and, List.length_append, List.length_set, List.length_drop, List.length_take, List.length_replicate, List.length_cons, List.length_nil, Nat.zero_add, Nat.mul_one]); omega) | decide | (intros; simp_all; done) | (intros; simp_all; omega)) ?_
    refine hK7 _ _ ?_
    clear hK7
    first | refine AWPD.condP rfl (fun h1 => ?_) (fun h1 => ?_) | refine AWPD.condN rfl (fun h1 => ?_) (fun h1 => ?_) | refine AWPD.condAP rfl (fun h1 => ?_) (fun h1 => ?_) | refine AWPD.condOP rfl (fun h1 => ?_) (fun h1 => ?_) | refine AWPD.condONN rfl (fun h1 => ?_) (fun h1 => ?_) | refine AWPD.condOPN rfl (fun h1 => ?_) (fun h1 => ?_) | refine AWPD.condA rfl (fun h1 => ?_) (fun h1 => ?_) | refine AWPD.condO rfl (fun h1 => ?_) (fun h1 => ?_) | refine AWPD.cond rfl (fun h1 => ?_) (fun h1 => ?_)
    · try dsimp only [Ty.T] at h1
      try simp only [castL_self] at h1
      try simp only [Int.toNat_natCast] at h1
      try simp only [Int.toNat_zero] at h1
      refine AWPD.seq fun K8 hK8 => ?_
      -- region 5
      refine AWPD.keep [] rfl ?_
      refine AWPD.region tabOK rfl ?_
      repeat refine And.intro (by first | exact fun h => h | exact fun _ => rfl | (intro h; rw [h]; rfl) | omega | (intros; (try dsimp only [Ty.T, Ty.size]); (try simp only [castL_self, Int.toNat_natCast, Int.toNat_zero, Int.toNat_one, true_and, List.length_append, List.length_set, List.length_drop, List.length_take, List.length_replicate, List.length_cons, List.length_nil, Nat.zero_add, Nat.mul_one]); omega) | decide | (intros; simp_all; done) | (intros; simp_all; omega)) ?_
      refine hK8 _ _ ?_
      clear hK8
      refine AWPD.ret (And.intro (.inl rfl) ?_)
      -- result 1
      refine RetD.one ?_
      exact fitE rfl (by unfold heightsE; rw [if_neg (fun h => h h0), if_pos (by omega)])
    · try dsimp only [Ty.T] at h1
      try simp only [castL_self] at h1
      try simp only [Int.toNat_natCast] at h1
      try simp only [Int.toNat_zero] at h1
      have hl : hs.length = (t.getD 0 []).length := by omega
      have gc := g.cols
      refine AWPD.skip ?_
      refine hK6 _ _ ?_
      clear hK6
      refine AWPD.seq fun K9 hK9 => ?_
      refine AWPD.seq fun K10 hK10 => ?_
      -- region 6
      refine AWPD.keep [1] rfl ?_
      refine AWPD.region tabOK rfl ?_
      refine hK10 _ _ ?_
      clear hK10
      refine AWPD.block ?_
      -- LOOP 0 live [21, 22, 23] changed [23]
      refine AWPD.loopK (σ := Nat) [21, 22] (fun i base => (23, .i (i : Int)) :: base) (fun _ => []) (fun n i => n + i = hs.length ∧ ∀ j, j < i → heightG hs j = 0) (hs.length) 0 [] rfl rfl (⟨by omega, by intro j hj; omega⟩) (by decide) trivial (by repeat' first | exact True.intro | exact rfl | exact ⟨rfl, rfl⟩ | refine And.intro ?_ ?_) fun n0 i hI0 => ?_
      obtain ⟨hn0, hv0⟩ := hI0
      refine AWPD.seq fun K11 hK11 => ?_
      -- region 7
      refine AWPD.keep [21, 22, 23] rfl ?_
      refine AWPD.region tabOK rfl ?_
      refine hK11 _ _ ?_
      clear hK11
      refine AWPD.seq fun K12 hK12 => ?_
      first | refine AWPD.condP rfl (fun h2 => ?_) (fun h2 => ?_) | refine AWPD.condN rfl (fun h2 => ?_) (fun h2 => ?_) | refine AWPD.condAP rfl (fun h2 => ?_) (fun h2 => ?_) | refine AWPD.condOP rfl (fun h2 => ?_) (fun h2 => ?_) | refine AWPD.condONN rfl (fun h2 => ?_) (fun h2 => ?_) | refine AWPD.condOPN rfl (fun h2 => ?_) (fun h2 => ?_) | refine AWPD.condA rfl (fun h2 => ?_) (fun h2 => ?_) | refine AWPD.condO rfl (fun h2 => ?_) (fun h2 => ?_) | refine AWPD.cond rfl (fun h2 => ?_) (fun h2 => ?_)
      · try dsimp only [Ty.T] at h2
        try simp only [castL_self] at h2
        try simp only [Int.toNat_natCast] at h2
        try simp only [Int.toNat_zero] at h2
        refine AWPD.skip ?_
        refine hK12 _ _ ?_
        clear hK12
        refine AWPD.seq fun K13 hK13 => ?_
        refine AWPD.block ?_
        refine AWPD.seq fun K14 hK14 => ?_
        -- region 8
        refine AWPD.keep [21, 22, 23] rfl ?_
        refine AWPD.region tabOK rfl ?_
        repeat refine And.intro (by first | exact fun h => h | exact fun _ => rfl | (intro h; rw [h]; rfl) | omega | (intros; (try dsimp only [Ty.T, Ty.size]); (try simp only [castL_self, Int.toNat_natCast, Int.toNat_zero, Int.toNat_one, true_and, List.length_append, List.length_set, List.length_drop, List.length_take, List.length_replicate, List.length_cons, List.length_nil, Nat.zero_add, Nat.mul_one]); omega) | decide | (intros; simp_all; done) | (intros; simp_all; omega)) ?_
        refine hK14 _ _ ?_
        clear hK14
        refine AWPD.seq fun K15 hK15 => ?_
        -- region 9
        refine AWPD.keep [7, 21, 22, 23] rfl ?_
        refine AWPD.region tabOK rfl ?_
        refine Exists.intro _ (Exists.intro _ (And.intro (StepD.call (within_fn _ _ _) rfl rfl rfl) (And.intro rfl (And.intro trivial ?_))))
        refine hK15 _ _ ?_
        clear hK15
        first | refine AWPD.cond rfl (fun h3 => ?_) (fun h3 => ?_)
        · try dsimp only [Ty.T] at h3
          try simp only [castL_self] at h3
          try simp only [Int.toNat_natCast] at h3
          try simp only [Int.toNat_zero] at h3
          have h3 : ¬(0 ≤ hs.getD i 0 ∧ hs.getD i 0 ≤ 3) := fun hh => by rw [decide_eq_true hh] at h3; cases h3
          refine AWPD.seq fun K16 hK16 => ?_
          -- region 10
          refine AWPD.keep [] rfl ?_
          refine AWPD.region tabOK rfl ?_
          repeat refine And.intro (by first | exact fun h => h | exact fun _ => rfl | (intro h; rw [h]; rfl) | omega | (intros; (try dsimp only [Ty.T, Ty.size]); (try simp only [castL_self, Int.toNat_natCast, Int.toNat_zero, Int.toNat_one, true_and, List.length_append, List.length_set, List.length_drop, List.length_take, List.length_replicate, List.length_cons, List.length_nil, Nat.zero_add, Nat.mul_one]); omega) | decide | (intros; simp_all; done) | (intros; simp_all; omega)) ?_
          refine hK16 _ _ ?_
          clear hK16
          refine AWPD.ret (And.intro (.inl rfl) ?_)
          -- result 2
          refine RetD.one ?_
          exact fitE rfl (heightsE_bad h0 (by omega) (by omega) hv0 h3).symm
        · try dsimp only [Ty.T] at h3
          try simp only [castL_self] at h3
          try simp only [Int.toNat_natCast] at h3
          try simp only [Int.toNat_zero] at h3
          have h3 : 0 ≤ hs.getD i 0 ∧ hs.getD i 0 ≤ 3 := by simpa using h3
          refine AWPD.skip ?_
          refine hK13 _ _ ?_
          clear hK13
          -- region 11
          refine AWPD.keep [21, 22, 23] rfl ?_
          refine AWPD.region tabOK rfl ?_
          repeat refine And.intro (by first | exact fun h => h | exact fun _ => rfl | (intro h; rw [h]; rfl) | omega | (intros; (try dsimp only [Ty.T, Ty.size]); (try simp only [castL_self, Int.toNat_natCast, Int.toNat_zero, Int.toNat_one, true_and, List.length_append, List.length_set, List.length_drop, List.length_take, List.length_replicate, List.length_cons, List.length_nil, Nat.zero_add, Nat.mul_one]); omega) | decide | (intros; simp_all; done) | (intros; simp_all; omega)) ?_
          refine ⟨n0 - 1, i + 1, [], by omega, ⟨by omega, fun j hj => by
              rcases Nat.lt_or_ge j i with h | h
              · exact hv0 j h
              · rw [show j = i by omega]; unfold heightG; rw [if_pos h3]⟩, ⟨by decide, rfl⟩, trivial, ?_⟩
          repeat' first | exact True.intro | exact rfl | exact ⟨rfl, rfl⟩ | refine And.intro ?_ ?_
      · try dsimp only [Ty.T] at h2
        try simp only [castL_self] at h2
        try simp only [Int.toNat_natCast] at h2
        try simp only [Int.toNat_zero] at h2
        refine AWPD.exit ?_
        refine hK9 _ _ ?_
        clear hK9
        refine AWPD.seq fun K17 hK17 => ?_
        -- region 12
        refine AWPD.keep [] rfl ?_
        refine AWPD.region tabOK rfl ?_
        refine hK17 _ _ ?_
        clear hK17
        refine AWPD.ret (And.intro (.inl rfl) ?_)
        -- result 3
        refine RetD.one ?_
        exact fitE rfl (heightsE_ok h0 (by omega) fun j hj => hv0 j (by omega)).symm
theorem blur_fn (row hs : List Int) (hl : row.length ≤ 3) (hh : row.length ≤ hs.length) (hr : ∀ k, k < hs.length → 0 ≤ hs.getD k 0 ∧ hs.getD k 0 ≤ 3) : LiftsG Tryd.prog noG 42 [.sl .int row, .sl .int hs] (.agg (intsD (blurL row hs))) := by
  refine LiftsG.of_bodyW 24 [.cell 4 66] Tryd.func42 rfl Tryd.ntmps42 (by kernel_rfl) rfl rfl fun w0 X0 hG0 => ?_
  refine AWPD.seq fun K1 hK1 => ?_
  -- region 0
  refine AWPD.keep [0, 1] rfl ?_
  refine AWPD.region tabOK rfl ?_
  refine hK1 _ _ ?_
  clear hK1
  refine AWPD.seq fun K2 hK2 => ?_
  refine AWPD.seq fun K3 hK3 => ?_
  -- region 1
  refine AWPD.keep [0, 1, 4] rfl ?_
  refine AWPD.region tabOK rfl ?_
  refine hK3 _ _ ?_
  clear hK3
  refine AWPD.block ?_
  -- LOOP 0 live [1, 4, 7, 8, 9] changed [9]
  refine AWPD.loopK (σ := Nat) [1, 7, 8] (fun i base => (4, .op 0 0) :: (9, .i (i : Int)) :: base) (fun i => [.arr 66 .int (blurP row hs i)]) (fun n i => n + i = row.length) (row.length) 0 [0] rfl rfl (by omega) (by decide) ⟨⟨rfl, rfl, blurP_zero row hs⟩, trivial⟩ (by repeat' first | exact True.intro | exact rfl | exact ⟨rfl, rfl⟩ | refine And.intro ?_ ?_) fun n0 i hI0 => ?_
  have hn0 := hI0
  refine AWPD.seq fun K4 hK4 => ?_
  -- region 2
  refine AWPD.keep [1, 4, 7, 8, 9] rfl ?_
  refine AWPD.region tabOK rfl ?_
  refine hK4 _ _ ?_
  clear hK4
  refine AWPD.seq fun K5 hK5 => ?_
  first | refine AWPD.condP rfl (fun h0 => ?_) (fun h0 => ?_) | refine AWPD.condN rfl (fun h0 => ?_) (fun h0 => ?_) | refine AWPD.condAP rfl (fun h0 => ?_) (fun h0 => ?_) | refine AWPD.condOP rfl (fun h0 => ?_) (fun h0 => ?_) | refine AWPD.condONN rfl (fun h0 => ?_) (fun h0 => ?_) | refine AWPD.condOPN rfl (fun h0 => ?_) (fun h0 => ?_) | refine AWPD.condA rfl (fun h0 => ?_) (fun h0 => ?_) | refine AWPD.condO rfl (fun h0 => ?_) (fun h0 => ?_) | refine AWPD.cond rfl (fun h0 => ?_) (fun h0 => ?_)
  · try dsimp only [Ty.T] at h0
    try simp only [castL_self] at h0
    try simp only [Int.toNat_natCast] at h0
    try simp only [Int.toNat_zero] at h0
    have hir : i < row.length := by omega
    have hhi := hr i (by omega)
    have hbl := blurP_len row hs i
    refine AWPD.skip ?_
    refine hK5 _ _ ?_
    clear hK5
    refine AWPD.seq fun K6 hK6 => ?_
    refine AWPD.block ?_
    refine AWPD.seq fun K7 hK7 => ?_
    -- region 3
    refine AWPD.keep [1, 4, 7, 8, 9] rfl ?_
    refine AWPD.region tabOK rfl ?_
    repeat refine And.intro (by first | exact fun h => h | exact fun _ => rfl | (intro h; rw [h]; rfl) | omega | (intros; (try dsimp only [Ty.T, Ty.size]); (try simp only [castL_self, Int.toNat_natCast, Int.toNat_zero, Int.toNat_one, true_and, List.length_append, List.length_set, List.length_drop, List.length_take, List.length_replicate, List.length_cons, List.length_nil, Nat.zero_add, Nat.mul_one]); omega) | decide | (intros; simp_all; done) | (intros; simp_all; omega)) ?_
    refine hK7 _ _ ?_
    clear hK7
    -- region 4
    refine AWPD.keep [1, 4, 5, 6, 7, 8, 9] rfl ?_
    refine AWPD.region tabOK rfl ?_
    repeat refine And.intro (by first | exact fun h => h | exact fun _ => rfl | (intro h; rw [h]; rfl) | omega | (intros; (try dsimp only [Ty.T, Ty.size]); (try simp only [castL_self, Int.toNat_natCast, Int.toNat_zero, Int.toNat_one, true_and, List.length_append, List.length_set, List.length_drop, List.length_take, List.length_replicate, List.length_cons, List.length_nil, Nat.zero_add, Nat.mul_one]); omega) | decide | (intros; simp_all; done) | (intros; simp_all; omega)) ?_
    refine hK6 _ _ ?_
    clear hK6
    -- region 5
    refine AWPD.keep [1, 4, 7, 8, 9] rfl ?_
    refine AWPD.region tabOK rfl ?_
    repeat refine And.intro (by first | exact fun h => h | exact fun _ => rfl | (intro h; rw [h]; rfl) | omega | (intros; (try dsimp only [Ty.T, Ty.size]); (try simp only [castL_self, Int.toNat_natCast, Int.toNat_zero, Int.toNat_one, true_and, List.length_append, List.length_set, List.length_drop, List.length_take, List.length_replicate, List.length_cons, List.length_nil, Nat.zero_add, Nat.mul_one]); omega) | decide | (intros; simp_all; done) | (intros; simp_all; omega)) ?_
    refine ⟨n0 - 1, i + 1, [0], by omega, by omega, ⟨by decide, rfl⟩, ⟨⟨rfl, rfl, blurP_set (by omega) (shr_blur hhi)⟩, trivial⟩, ?_⟩
    repeat' first | exact True.intro | exact rfl | exact ⟨rfl, rfl⟩ | refine And.intro ?_ ?_
  · try dsimp only [Ty.T] at h0
    try simp only [castL_self] at h0
    try simp only [Int.toNat_natCast] at h0
    try simp only [Int.toNat_zero] at h0
    have hir : i = row.length := by omega
    have hbl := blurP_len row hs i
    refine AWPD.exit ?_
    refine hK2 _ _ ?_
    clear hK2
    refine AWPD.seq fun K8 hK8 => ?_
    -- region 6
    refine AWPD.keep [4] rfl ?_
    refine AWPD.region tabOK rfl ?_
    repeat refine And.intro (by first | exact fun h => h | exact fun _ => rfl | (intro h; rw [h]; rfl) | omega | (intros; (try dsimp only [Ty.T, Ty.size]); (try simp only [castL_self, Int.toNat_natCast, Int.toNat_zero, Int.toNat_one, true_and, List.length_append, List.length_set, List.length_drop, List.length_take, List.length_replicate, List.length_cons, List.length_nil, Nat.zero_add, Nat.mul_one]); omega) | decide | (intros; simp_all; done) | (intros; simp_all; omega)) ?_
    refine hK8 _ _ ?_
    clear hK8
    refine AWPD.ret (And.intro (.inl rfl) ?_)
    -- result 0
    subst hir
    exact RetW.one ⟨0, _, intsD (blurL row hs), _, rfl, rfl, tabOK.agg (66, 3) (by decide), rfl, rfl⟩
end Go.Proofs.YtmeacgkhabnjlaaDoor
