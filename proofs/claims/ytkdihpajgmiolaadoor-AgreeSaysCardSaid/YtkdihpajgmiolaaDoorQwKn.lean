/-
  WALKS of partitions, their classes, and what one knows. Laid by a program of mine out of the operations, with the loops and results told by hand.
-/
import Derived.Test.YtkdihpajgmiolaaDoorQwBa
namespace Go.Proofs.YtkdihpajgmiolaaDoor
open Go Go.Qw
set_option maxRecDepth 10000
set_option linter.unusedSimpArgs false
set_option linter.unusedVariables false
set_option linter.unusedSectionVars false


/-- How many classes the first i worlds have. -/
def nextP (p : List Int) : Nat → Int
  | 0 => 0
  | i + 1 => if p.getD i 0 = nextP p i then nextP p i + 1 else nextP p i
theorem nextP_in (p : List Int) : ∀ i, 0 ≤ nextP p i ∧ nextP p i ≤ (i : Int)
  | 0 => by simp [nextP]
  | i + 1 => by
    have := nextP_in p i
    unfold nextP
    split <;> omega
theorem nextP_yes {p : List Int} {i : Nat} (h : p.getD i 0 = nextP p i) : nextP p i + 1 = nextP p (i + 1) := by rw [nextP, if_pos h]
theorem nextP_no {p : List Int} {i : Nat} (h : ¬p.getD i 0 = nextP p i) : nextP p i = nextP p (i + 1) := by rw [nextP, if_neg h]
theorem nextP_le (p : List Int) (i : Nat) : nextP p i ≤ nextP p (i + 1) := by
  rw [show nextP p (i + 1) = if p.getD i 0 = nextP p i then nextP p i + 1 else nextP p i from rfl]
  split <;> omega
theorem nextP_mono (p : List Int) {i j : Nat} (h : i ≤ j) : nextP p i ≤ nextP p j := by
  induction h with
  | refl => exact Int.le_refl _
  | step _ ih => exact Int.le_trans ih (nextP_le p _)
def okP (p : List Int) (i : Nat) : Prop := ∀ j, j < i → 0 ≤ p.getD j 0 ∧ p.getD j 0 ≤ nextP p j
def partE (p : List Int) : Int := if 12 < p.length then 4 else if ∀ j ∈ List.range p.length, 0 ≤ p.getD j 0 ∧ p.getD j 0 ≤ nextP p j then 0 else 3
theorem partE_bad {p : List Int} (h : p.length ≤ 12) {j : Nat} (hj : j < p.length) (hn : ¬(0 ≤ p.getD j 0 ∧ p.getD j 0 ≤ nextP p j)) : partE p = 3 := by
  unfold partE
  rw [if_neg (by omega), if_neg fun h => hn (h j (List.mem_range.2 hj))]
theorem partE_ok {p : List Int} (h : p.length ≤ 12) (hp : okP p p.length) : partE p = 0 := by
  unfold partE
  rw [if_neg (by omega), if_pos fun j hj => hp j (List.mem_range.1 hj)]
theorem partE_good {p : List Int} (h : partE p = 0) : p.length ≤ 12 ∧ okP p p.length := by
  unfold partE at h
  split at h
  · cases h
  · split at h
    · rename_i h1 h2
      exact ⟨by omega, fun j hj => h2 j (List.mem_range.2 hj)⟩
    · cases h

theorem part_fn (p : List Int) : LiftsD Tryd.prog 20 [.sl .int p] (.er 66 (partE p)) := by
  refine LiftsD.of_body 27 [.tmp 2] Tryd.func20 rfl Tryd.ntmps20 (by kernel_rfl) rfl rfl fun w0 X0 => ?_
  refine AWPD.seq fun K1 hK1 => ?_
  -- region 0
  refine AWPD.keep [0] rfl ?_
  refine AWPD.region tabOK rfl ?_
  refine hK1 _ _ ?_
  clear hK1
  refine AWPD.seq fun K2 hK2 => ?_
  refine AWPD.seq fun K3 hK3 => ?_
  -- region 1
  refine AWPD.keep [0] rfl ?_
  refine AWPD.region tabOK rfl ?_
  refine hK3 _ _ ?_
  clear hK3
  first | refine AWPD.condP rfl (fun h0 => ?_) (fun h0 => ?_) | refine AWPD.condN rfl (fun h0 => ?_) (fun h0 => ?_) | refine AWPD.condAP rfl (fun h0 => ?_) (fun h0 => ?_) | refine AWPD.condOP rfl (fun h0 => ?_) (fun h0 => ?_) | refine AWPD.condONN rfl (fun h0 => ?_) (fun h0 => ?_) | refine AWPD.condOPN rfl (fun h0 => ?_) (fun h0 => ?_) | refine AWPD.condA rfl (fun h0 => ?_) (fun h0 => ?_) | refine AWPD.condO rfl (fun h0 => ?_) (fun h0 => ?_) | refine AWPD.cond rfl (fun h0 => ?_) (fun h0 => ?_)
  · try dsimp only [Ty.T] at h0
    try simp only [castL_self] at h0
    try simp only [Int.toNat_natCast] at h0
    try simp only [Int.toNat_zero] at h0
    refine AWPD.seq fun K4 hK4 => ?_
    -- region 2
    refine AWPD.keep [] rfl ?_
    refine AWPD.region tabOK rfl ?_
    repeat refine And.intro (by first | exact fun h => h | exact fun _ => rfl | (intro h; rw [h]; rfl) | omega | (intros; (try dsimp only [Ty.T, Ty.size]); (try simp only [castL_self, Int.toNat_natCast, Int.toNat_zero, Int.toNat_one, true_and, List.length_append, List.length_set, List.length_drop, List.length_take, List.length_replicate, List.length_cons, List.length_nil, Nat.zero_add, Nat.mul_one]); omega) | decide | (intros; simp_all; done) | (intros; simp_all; omega)) ?_
    refine hK4 _ _ ?_
    clear hK4
    refine AWPD.ret (And.intro (.inl rfl) ?_)
    -- result 0
    refine RetD.one ?_
    exact fitE rfl (by unfold partE; rw [if_pos (by omega)])
  · try dsimp only [Ty.T] at h0
    try simp only [castL_self] at h0
    try simp only [Int.toNat_natCast] at h0
    try simp only [Int.toNat_zero] at h0
    refine AWPD.skip ?_
    refine hK2 _ _ ?_
    clear hK2
    refine AWPD.seq fun K5 hK5 => ?_
    -- region 3
    refine AWPD.keep [0] rfl ?_
    refine AWPD.region tabOK rfl ?_
    refine hK5 _ _ ?_
    clear hK5
    refine AWPD.seq fun K6 hK6 => ?_
    refine AWPD.seq fun K7 hK7 => ?_
    -- region 4
    refine AWPD.keep [0, 3] rfl ?_
    refine AWPD.region tabOK rfl ?_
    refine hK7 _ _ ?_
    clear hK7
    refine AWPD.block ?_
    -- LOOP 0 live [3, 10, 11, 12] changed [3, 12]
    refine AWPD.loopK (σ := Nat) [10, 11] (fun i base => (3, .i (nextP p i)) :: (12, .i (i : Int)) :: base) (fun _ => []) (fun n i => n + i = p.length ∧ okP p i) (p.length) 0 [] rfl rfl (⟨by omega, by intro j hj; omega⟩) (by decide) trivial (by repeat' first | exact True.intro | exact rfl | exact ⟨rfl, rfl⟩ | refine And.intro ?_ ?_) fun n0 i hI0 => ?_
    obtain ⟨hn0, hv0⟩ := hI0
    have hne := nextP_in p i
    refine AWPD.seq fun K8 hK8 => ?_
    -- region 5
    refine AWPD.keep [3, 10, 11, 12] rfl ?_
    refine AWPD.region tabOK rfl ?_
    refine hK8 _ _ ?_
    clear hK8
    refine AWPD.seq fun K9 hK9 => ?_
    first | refine AWPD.condP rfl (fun h1 => ?_) (fun h1 => ?_) | refine AWPD.condN rfl (fun h1 => ?_) (fun h1 => ?_) | refine AWPD.condAP rfl (fun h1 => ?_) (fun h1 => ?_) | refine AWPD.condOP rfl (fun h1 => ?_) (fun h1 => ?_) | refine AWPD.condONN rfl (fun h1 => ?_) (fun h1 => ?_) | refine AWPD.condOPN rfl (fun h1 => ?_) (fun h1 => ?_) | refine AWPD.condA rfl (fun h1 => ?_) (fun h1 => ?_) | refine AWPD.condO rfl (fun h1 => ?_) (fun h1 => ?_) | refine AWPD.cond rfl (fun h1 => ?_) (fun h1 => ?_)
    · try dsimp only [Ty.T] at h1
      try simp only [castL_self] at h1
      try simp only [Int.toNat_natCast] at h1
      try simp only [Int.toNat_zero] at h1
      refine AWPD.skip ?_
      refine hK9 _ _ ?_
      clear hK9
      refine AWPD.seq fun K10 hK10 => ?_
      refine AWPD.block ?_
      refine AWPD.seq fun K11 hK11 => ?_
      -- region 6
      refine AWPD.keep [3, 10, 11, 12] rfl ?_
      refine AWPD.region tabOK rfl ?_
      repeat refine And.intro (by first | exact fun h => h | exact fun _ => rfl | (intro h; rw [h]; rfl) | omega | (intros; (try dsimp only [Ty.T, Ty.size]); (try simp only [castL_self, Int.toNat_natCast, Int.toNat_zero, Int.toNat_one, true_and, List.length_append, List.length_set, List.length_drop, List.length_take, List.length_replicate, List.length_cons, List.length_nil, Nat.zero_add, Nat.mul_one]); omega) | decide | (intros; simp_all; done) | (intros; simp_all; omega)) ?_
      refine hK11 _ _ ?_
      clear hK11
      refine AWPD.seq fun K12 hK12 => ?_
      refine AWPD.seq fun K13 hK13 => ?_
      -- region 7
      refine AWPD.keep [3, 5, 10, 11, 12] rfl ?_
      refine AWPD.region tabOK rfl ?_
      refine Exists.intro _ (Exists.intro _ (And.intro (StepD.call (within_fn _ _ _) rfl rfl rfl) (And.intro rfl (And.intro trivial ?_))))
      refine hK13 _ _ ?_
      clear hK13
      first | refine AWPD.condP rfl (fun h2 => ?_) (fun h2 => ?_) | refine AWPD.condN rfl (fun h2 => ?_) (fun h2 => ?_) | refine AWPD.condAP rfl (fun h2 => ?_) (fun h2 => ?_) | refine AWPD.condOP rfl (fun h2 => ?_) (fun h2 => ?_) | refine AWPD.condONN rfl (fun h2 => ?_) (fun h2 => ?_) | refine AWPD.condOPN rfl (fun h2 => ?_) (fun h2 => ?_) | refine AWPD.condA rfl (fun h2 => ?_) (fun h2 => ?_) | refine AWPD.condO rfl (fun h2 => ?_) (fun h2 => ?_) | refine AWPD.cond rfl (fun h2 => ?_) (fun h2 => ?_)
      · try dsimp only [Ty.T] at h2
        try simp only [castL_self] at h2
        try simp only [Int.toNat_natCast] at h2
        try simp only [Int.toNat_zero] at h2
        refine AWPD.seq fun K14 hK14 => ?_
        -- region 8
        refine AWPD.keep [] rfl ?_
        refine AWPD.region tabOK rfl ?_
        repeat refine And.intro (by first | exact fun h => h | exact fun _ => rfl | (intro h; rw [h]; rfl) | omega | (intros; (try dsimp only [Ty.T, Ty.size]); (try simp only [castL_self, Int.toNat_natCast, Int.toNat_zero, Int.toNat_one, true_and, List.length_append, List.length_set, List.length_drop, List.length_take, List.length_replicate, List.length_cons, List.length_nil, Nat.zero_add, Nat.mul_one]); omega) | decide | (intros; simp_all; done) | (intros; simp_all; omega)) ?_
        refine hK14 _ _ ?_
        clear hK14
        refine AWPD.ret (And.intro (.inl rfl) ?_)
        -- result 1
        refine RetD.one ?_
        exact fitE rfl (partE_bad (j := i) (by omega) (by omega) h2).symm
      · try dsimp only [Ty.T] at h2
        try simp only [castL_self] at h2
        try simp only [Int.toNat_natCast] at h2
        try simp only [Int.toNat_zero] at h2
        refine AWPD.skip ?_
        refine hK12 _ _ ?_
        clear hK12
        refine AWPD.seq fun K15 hK15 => ?_
        -- region 9
        refine AWPD.keep [3, 5, 10, 11, 12] rfl ?_
        refine AWPD.region tabOK rfl ?_
        refine hK15 _ _ ?_
        clear hK15
        first | refine AWPD.condP rfl (fun h3 => ?_) (fun h3 => ?_) | refine AWPD.condN rfl (fun h3 => ?_) (fun h3 => ?_) | refine AWPD.condAP rfl (fun h3 => ?_) (fun h3 => ?_) | refine AWPD.condOP rfl (fun h3 => ?_) (fun h3 => ?_) | refine AWPD.condONN rfl (fun h3 => ?_) (fun h3 => ?_) | refine AWPD.condOPN rfl (fun h3 => ?_) (fun h3 => ?_) | refine AWPD.condA rfl (fun h3 => ?_) (fun h3 => ?_) | refine AWPD.condO rfl (fun h3 => ?_) (fun h3 => ?_) | refine AWPD.cond rfl (fun h3 => ?_) (fun h3 => ?_)
        · try dsimp only [Ty.T] at h3
          try simp only [castL_self] at h3
          try simp only [Int.toNat_natCast] at h3
          try simp only [Int.toNat_zero] at h3
          -- region 10
          refine AWPD.keep [3, 10, 11, 12] rfl ?_
          refine AWPD.region tabOK rfl ?_
          repeat refine And.intro (by first | exact fun h => h | exact fun _ => rfl | (intro h; rw [h]; rfl) | omega | (intros; (try dsimp only [Ty.T, Ty.size]); (try simp only [castL_self, Int.toNat_natCast, Int.toNat_zero, Int.toNat_one, true_and, List.length_append, List.length_set, List.length_drop, List.length_take, List.length_replicate, List.length_cons, List.length_nil, Nat.zero_add, Nat.mul_one]); omega) | decide | (intros; simp_all; done) | (intros; simp_all; omega)) ?_
          refine hK10 _ _ ?_
          clear hK10
          -- region 11
          refine AWPD.keep [3, 10, 11, 12] rfl ?_
          refine AWPD.region tabOK rfl ?_
          repeat refine And.intro (by first | exact fun h => h | exact fun _ => rfl | (intro h; rw [h]; rfl) | omega | (intros; (try dsimp only [Ty.T, Ty.size]); (try simp only [castL_self, Int.toNat_natCast, Int.toNat_zero, Int.toNat_one, true_and, List.length_append, List.length_set, List.length_drop, List.length_take, List.length_replicate, List.length_cons, List.length_nil, Nat.zero_add, Nat.mul_one]); omega) | decide | (intros; simp_all; done) | (intros; simp_all; omega)) ?_
          refine ⟨n0 - 1, i + 1, [], by omega, ⟨by omega, by
            intro j hj
            rcases Nat.lt_or_ge j i with h | h
            · exact hv0 j h
            · rw [show j = i by omega]; exact h2⟩, ⟨by decide, rfl⟩, trivial, ?_⟩
          repeat' first | exact nextP_yes h3 | exact nextP_no h3 | exact True.intro | exact rfl | exact ⟨rfl, rfl⟩ | refine And.intro ?_ ?_
        · try dsimp only [Ty.T] at h3
          try simp only [castL_self] at h3
          try simp only [Int.toNat_natCast] at h3
          try simp only [Int.toNat_zero] at h3
          refine AWPD.skip ?_
          refine hK10 _ _ ?_
          clear hK10
          -- region 11
          refine AWPD.keep [3, 10, 11, 12] rfl ?_
          refine AWPD.region tabOK rfl ?_
          repeat refine And.intro (by first | exact fun h => h | exact fun _ => rfl | (intro h; rw [h]; rfl) | omega | (intros; (try dsimp only [Ty.T, Ty.size]); (try simp only [castL_self, Int.toNat_natCast, Int.toNat_zero, Int.toNat_one, true_and, List.length_append, List.length_set, List.length_drop, List.length_take, List.length_replicate, List.length_cons, List.length_nil, Nat.zero_add, Nat.mul_one]); omega) | decide | (intros; simp_all; done) | (intros; simp_all; omega)) ?_
          refine ⟨n0 - 1, i + 1, [], by omega, ⟨by omega, by
            intro j hj
            rcases Nat.lt_or_ge j i with h | h
            · exact hv0 j h
            · rw [show j = i by omega]; exact h2⟩, ⟨by decide, rfl⟩, trivial, ?_⟩
          repeat' first | exact nextP_yes h3 | exact nextP_no h3 | exact True.intro | exact rfl | exact ⟨rfl, rfl⟩ | refine And.intro ?_ ?_
    · try dsimp only [Ty.T] at h1
      try simp only [castL_self] at h1
      try simp only [Int.toNat_natCast] at h1
      try simp only [Int.toNat_zero] at h1
      refine AWPD.exit ?_
      refine hK6 _ _ ?_
      clear hK6
      refine AWPD.seq fun K16 hK16 => ?_
      -- region 12
      refine AWPD.keep [] rfl ?_
      refine AWPD.region tabOK rfl ?_
      refine hK16 _ _ ?_
      clear hK16
      refine AWPD.ret (And.intro (.inl rfl) ?_)
      -- result 2
      refine RetD.one ?_
      exact fitE rfl (partE_ok (by omega) (by rw [show p.length = i by omega]; exact hv0)).symm

/-- The worlds of a class, of the first i. -/
def maskP (p : List Int) (k : Int) : Nat → Nat
  | 0 => 0
  | i + 1 => if p.getD i 0 = k then maskP p k i ||| 2 ^ i else maskP p k i
theorem maskP_lt (p : List Int) (k : Int) : ∀ i, maskP p k i < 2 ^ i
  | 0 => by simp [maskP]
  | i + 1 => by
    have h := maskP_lt p k i
    have h2 : (2 : Nat) ^ i < 2 ^ (i + 1) := by rw [Nat.pow_succ]; have := Nat.two_pow_pos i; omega
    unfold maskP
    split
    · exact Nat.or_lt_two_pow (Nat.lt_trans h h2) h2
    · exact Nat.lt_trans h h2
theorem maskP_bit (p : List Int) (k : Int) (j : Nat) : ∀ i, (maskP p k i).testBit j = (decide (j < i) && decide (p.getD j 0 = k))
  | 0 => by simp [maskP]
  | i + 1 => by
    have ih := maskP_bit p k j i
    unfold maskP
    by_cases hj : j = i
    · subst hj
      have h0 : (maskP p k j).testBit j = false := by rw [ih]; simp
      by_cases h : p.getD j 0 = k
      · rw [if_pos h, Nat.testBit_or, Nat.testBit_two_pow_self, h0, decide_eq_true h]; simp
      · rw [if_neg h, h0, decide_eq_false h]; simp
    · have h1 : decide (j < i + 1) = decide (j < i) := decide_eq_decide.2 (by omega)
      split
      · rw [Nat.testBit_or, ih, Nat.testBit_two_pow_of_ne (by omega), h1]; simp
      · rw [ih, h1]
theorem maskP_none {p : List Int} {i : Nat} (hp : okP p i) {k : Int} (hk : nextP p i ≤ k) : maskP p k i = 0 := by
  refine Nat.eq_of_testBit_eq fun j => ?_
  rw [maskP_bit, Nat.zero_testBit]
  by_cases h : j < i
  · have h1 := hp j h
    have h2 := nextP_mono p (show j + 1 ≤ i by omega)
    have : p.getD j 0 ≠ k := fun e => by
      by_cases h3 : p.getD j 0 = nextP p j
      · rw [nextP, if_pos h3] at h2; omega
      · rw [nextP, if_neg h3] at h2; omega
    rw [decide_eq_false this]; simp
  · simp [h]
def clsP (p : List Int) (i : Nat) : List Int := (List.range (nextP p i).toNat).map fun k : Nat => ((maskP p (k : Int) i : Nat) : Int)
theorem clsP_len (p : List Int) (i : Nat) : (clsP p i).length = (nextP p i).toNat := by simp [clsP]
theorem clsP_get (p : List Int) (i : Nat) {k : Nat} (h : k < (nextP p i).toNat) : (clsP p i).getD k 0 = ((maskP p (k : Int) i : Nat) : Int) := by simp [clsP, List.getD, h]
theorem mask_new {p : List Int} {i : Nat} {n : Int} (h : p.getD i 0 = n) : maskP p n (i + 1) = maskP p n i ||| 2 ^ i := by rw [maskP, if_pos h]
theorem mask_old {p : List Int} {i : Nat} {n : Int} (h : p.getD i 0 ≠ n) : maskP p n (i + 1) = maskP p n i := by rw [maskP, if_neg h]
/-- A class more. -/
theorem clsP_new {p : List Int} {i : Nat} (hp : okP p i) (h : p.getD i 0 = nextP p i) (m : Int) (hm : m = ((maskP p (nextP p i) i ||| 2 ^ i : Nat) : Int)) :
    List.set (clsP p i ++ [0]) (p.getD i 0).toNat m = clsP p (i + 1) := by
  have hn := nextP_in p i
  refine List.ext_getElem? fun k => ?_
  rw [h, List.getElem?_set]
  have hl : (clsP p (i + 1)).length = (nextP p i).toNat + 1 := by rw [clsP_len, ← nextP_yes h]; omega
  by_cases hk : (nextP p i).toNat = k
  · subst hk
    rw [if_pos rfl, if_pos (by rw [List.length_append, clsP_len]; simp), List.getElem?_eq_getElem (by omega)]
    simp only [clsP, List.getElem_map, List.getElem_range, Option.some.injEq]
    rw [hm, show ((nextP p i).toNat : Int) = nextP p i by omega, mask_new h]
  · rw [if_neg hk]
    by_cases hk2 : k < (nextP p i).toNat
    · rw [List.getElem?_append_left (by rw [clsP_len]; exact hk2), List.getElem?_eq_getElem (by rw [clsP_len]; exact hk2), List.getElem?_eq_getElem (by omega)]
      simp only [clsP, List.getElem_map, List.getElem_range, Option.some.injEq]
      rw [mask_old (by omega)]
    · rw [List.getElem?_eq_none (by rw [List.length_append, clsP_len]; simp; omega), List.getElem?_eq_none (by omega)]
theorem clsP_old {p : List Int} {i : Nat} (h : p.getD i 0 ≠ nextP p i) (h2 : 0 ≤ p.getD i 0 ∧ p.getD i 0 ≤ nextP p i) (m : Int) (hm : m = ((maskP p (p.getD i 0) i ||| 2 ^ i : Nat) : Int)) :
    List.set (clsP p i) (p.getD i 0).toNat m = clsP p (i + 1) := by
  have hn := nextP_in p i
  refine List.ext_getElem? fun k => ?_
  rw [List.getElem?_set]
  have hl : (clsP p (i + 1)).length = (nextP p i).toNat := by rw [clsP_len, ← nextP_no h]
  by_cases hk : (p.getD i 0).toNat = k
  · subst hk
    rw [if_pos rfl, if_pos (by rw [clsP_len]; omega), List.getElem?_eq_getElem (by omega)]
    simp only [clsP, List.getElem_map, List.getElem_range, Option.some.injEq]
    rw [hm, show ((p.getD i 0).toNat : Int) = p.getD i 0 by omega, mask_new rfl]
  · rw [if_neg hk]
    by_cases hk2 : k < (nextP p i).toNat
    · rw [List.getElem?_eq_getElem (by rw [clsP_len]; exact hk2), List.getElem?_eq_getElem (by omega)]
      simp only [clsP, List.getElem_map, List.getElem_range, Option.some.injEq]
      rw [mask_old (by omega)]
    · rw [List.getElem?_eq_none (by rw [clsP_len]; omega), List.getElem?_eq_none (by omega)]
theorem or_bit {m : Nat} {i : Nat} (hi : i ≤ 12) (hm : m < 4096) (a : Int) (ha : a = (m : Int)) : bitsI .or a (IntKind.i64.wrap (1 * 2 ^ (min (i : Int).toNat 64))) = ((m ||| 2 ^ i : Nat) : Int) := by
  have h2 : (2 : Nat) ^ i ≤ 4096 := Nat.pow_le_pow_right (by decide) hi
  subst ha
  rw [shl_one (by omega), Int.toNat_natCast]
  generalize (2 : Nat) ^ i = q at h2 ⊢
  rw [bits_or (by omega) (by omega), Int.toNat_natCast, Int.toNat_natCast]
theorem maskP_small {p : List Int} {k : Int} {i : Nat} (hi : i ≤ 12) : maskP p k i < 4096 := Nat.lt_of_lt_of_le (maskP_lt p k i) (Nat.pow_le_pow_right (by decide) hi)
theorem appd_get {l : List Int} {n : Nat} (h : n = l.length) : (l ++ [0]).getD n 0 = 0 := by subst h; simp [List.getD]
def clsL (p : List Int) : List Int := if partE p = 0 then clsP p p.length else []

theorem classes_fn (p : List Int) : LiftsD Tryd.prog 22 [.sl .int p] (.tup [.sl .int (clsL p), .er 66 (partE p)]) := by
  refine LiftsD.of_body 37 [.tmp 2, .tmp 3] Tryd.func22 rfl Tryd.ntmps22 (by kernel_rfl) rfl rfl fun w0 X0 => ?_
  refine AWPD.seq fun K1 hK1 => ?_
  -- region 0
  refine AWPD.keep [0] rfl ?_
  refine AWPD.region tabOK rfl ?_
  refine hK1 _ _ ?_
  clear hK1
  refine AWPD.seq fun K2 hK2 => ?_
  refine AWPD.seq fun K3 hK3 => ?_
  -- region 1
  refine AWPD.keep [0] rfl ?_
  refine AWPD.region tabOK rfl ?_
  refine Exists.intro _ (Exists.intro _ (And.intro (StepD.call (part_fn _) rfl rfl rfl) (And.intro rfl (And.intro trivial ?_))))
  refine hK3 _ _ ?_
  clear hK3
  refine AWPD.seq fun K4 hK4 => ?_
  -- region 2
  refine AWPD.keep [0, 4] rfl ?_
  refine AWPD.region tabOK rfl ?_
  refine hK4 _ _ ?_
  clear hK4
  first | refine AWPD.condP rfl (fun h0 => ?_) (fun h0 => ?_) | refine AWPD.condN rfl (fun h0 => ?_) (fun h0 => ?_) | refine AWPD.condAP rfl (fun h0 => ?_) (fun h0 => ?_) | refine AWPD.condOP rfl (fun h0 => ?_) (fun h0 => ?_) | refine AWPD.condONN rfl (fun h0 => ?_) (fun h0 => ?_) | refine AWPD.condOPN rfl (fun h0 => ?_) (fun h0 => ?_) | refine AWPD.condA rfl (fun h0 => ?_) (fun h0 => ?_) | refine AWPD.condO rfl (fun h0 => ?_) (fun h0 => ?_) | refine AWPD.cond rfl (fun h0 => ?_) (fun h0 => ?_)
  · try dsimp only [Ty.T] at h0
    try simp only [castL_self] at h0
    try simp only [Int.toNat_natCast] at h0
    try simp only [Int.toNat_zero] at h0
    refine AWPD.seq fun K5 hK5 => ?_
    -- region 3
    refine AWPD.keep [4] rfl ?_
    refine AWPD.region tabOK rfl ?_
    refine hK5 _ _ ?_
    clear hK5
    refine AWPD.ret (And.intro (.inl rfl) ?_)
    -- result 0
    exact ⟨fitN rfl (by unfold clsL; rw [if_neg h0]) (by decide), fitE rfl rfl⟩
  · try dsimp only [Ty.T] at h0
    try simp only [castL_self] at h0
    try simp only [Int.toNat_natCast] at h0
    try simp only [Int.toNat_zero] at h0
    have hp : partE p = 0 := by simpa using h0
    obtain ⟨hl, hok⟩ := partE_good hp
    refine AWPD.skip ?_
    refine hK2 _ _ ?_
    clear hK2
    refine AWPD.seq fun K6 hK6 => ?_
    -- region 4
    refine AWPD.keep [0] rfl ?_
    refine AWPD.region tabOK rfl ?_
    refine hK6 _ _ ?_
    clear hK6
    refine AWPD.seq fun K7 hK7 => ?_
    refine AWPD.seq fun K8 hK8 => ?_
    -- region 5
    refine AWPD.keep [0, 5] rfl ?_
    refine AWPD.region tabOK rfl ?_
    refine hK8 _ _ ?_
    clear hK8
    refine AWPD.block ?_
    -- LOOP 0 live [5, 13, 14, 15] changed [5, 15]
    refine AWPD.nilRow 5 3 .int rfl (by decide) ?_
    refine AWPD.loopK (σ := Nat) [13, 14] (fun i base => (5, .ob 0) :: (15, .i (i : Int)) :: base) (fun i => [.row 3 .int (clsP p i)]) (fun n i => n + i = p.length) (p.length) 0 [0] rfl rfl (by omega) (by decide) ⟨⟨rfl, rfl, rfl⟩, trivial⟩ (by repeat' first | exact True.intro | exact rfl | exact ⟨rfl, rfl⟩ | refine And.intro ?_ ?_) fun n0 i hI0 => ?_
    have hn0 := hI0
    have hne := nextP_in p i
    have hcl := clsP_len p i
    refine AWPD.seq fun K9 hK9 => ?_
    -- region 6
    refine AWPD.keep [5, 13, 14, 15] rfl ?_
    refine AWPD.region tabOK rfl ?_
    refine hK9 _ _ ?_
    clear hK9
    refine AWPD.seq fun K10 hK10 => ?_
    first | refine AWPD.condP rfl (fun h1 => ?_) (fun h1 => ?_) | refine AWPD.condN rfl (fun h1 => ?_) (fun h1 => ?_) | refine AWPD.condAP rfl (fun h1 => ?_) (fun h1 => ?_) | refine AWPD.condOP rfl (fun h1 => ?_) (fun h1 => ?_) | refine AWPD.condONN rfl (fun h1 => ?_) (fun h1 => ?_) | refine AWPD.condOPN rfl (fun h1 => ?_) (fun h1 => ?_) | refine AWPD.condA rfl (fun h1 => ?_) (fun h1 => ?_) | refine AWPD.condO rfl (fun h1 => ?_) (fun h1 => ?_) | refine AWPD.cond rfl (fun h1 => ?_) (fun h1 => ?_)
    · try dsimp only [Ty.T] at h1
      try simp only [castL_self] at h1
      try simp only [Int.toNat_natCast] at h1
      try simp only [Int.toNat_zero] at h1
      refine AWPD.skip ?_
      refine hK10 _ _ ?_
      clear hK10
      refine AWPD.seq fun K11 hK11 => ?_
      refine AWPD.block ?_
      refine AWPD.seq fun K12 hK12 => ?_
      -- region 7
      refine AWPD.keep [5, 13, 14, 15] rfl ?_
      refine AWPD.region tabOK rfl ?_
      repeat refine And.intro (by first | exact fun h => h | exact fun _ => rfl | (intro h; rw [h]; rfl) | omega | (intros; (try dsimp only [Ty.T, Ty.size]); (try simp only [castL_self, Int.toNat_natCast, Int.toNat_zero, Int.toNat_one, true_and, List.length_append, List.length_set, List.length_drop, List.length_take, List.length_replicate, List.length_cons, List.length_nil, Nat.zero_add, Nat.mul_one]); omega) | decide | (intros; simp_all; done) | (intros; simp_all; omega)) ?_
      refine hK12 _ _ ?_
      clear hK12
      refine AWPD.seq fun K13 hK13 => ?_
      refine AWPD.seq fun K14 hK14 => ?_
      -- region 8
      refine AWPD.keep [5, 6, 7, 13, 14, 15] rfl ?_
      refine AWPD.region tabOK rfl ?_
      refine hK14 _ _ ?_
      clear hK14
      first | refine AWPD.condP rfl (fun h2 => ?_) (fun h2 => ?_) | refine AWPD.condN rfl (fun h2 => ?_) (fun h2 => ?_) | refine AWPD.condAP rfl (fun h2 => ?_) (fun h2 => ?_) | refine AWPD.condOP rfl (fun h2 => ?_) (fun h2 => ?_) | refine AWPD.condONN rfl (fun h2 => ?_) (fun h2 => ?_) | refine AWPD.condOPN rfl (fun h2 => ?_) (fun h2 => ?_) | refine AWPD.condA rfl (fun h2 => ?_) (fun h2 => ?_) | refine AWPD.condO rfl (fun h2 => ?_) (fun h2 => ?_) | refine AWPD.cond rfl (fun h2 => ?_) (fun h2 => ?_)
      · try dsimp only [Ty.T] at h2
        try simp only [castL_self] at h2
        try simp only [Int.toNat_natCast] at h2
        try simp only [Int.toNat_zero] at h2
        have hpi := hok i (by omega)
        have hpn : p.getD i 0 = nextP p i := by omega
        -- region 9
        refine AWPD.keep [5, 6, 7, 13, 14, 15] rfl ?_
        refine AWPD.region tabOK rfl ?_
        repeat refine And.intro (by first | exact fun h => h | exact fun _ => rfl | (intro h; rw [h]; rfl) | omega | (intros; (try dsimp only [Ty.T, Ty.size]); (try simp only [castL_self, Int.toNat_natCast, Int.toNat_zero, Int.toNat_one, true_and, List.length_append, List.length_set, List.length_drop, List.length_take, List.length_replicate, List.length_cons, List.length_nil, Nat.zero_add, Nat.mul_one]); omega) | decide | (intros; simp_all; done) | (intros; simp_all; omega)) ?_
        refine hK13 _ _ ?_
        clear hK13
        -- region 10
        refine AWPD.keep [5, 6, 7, 13, 14, 15] rfl ?_
        refine AWPD.draw tabOK [8] rfl (by kernel_rfl) ?_
        repeat refine And.intro (by first | exact fun h => h | exact fun _ => rfl | (intro h; rw [h]; rfl) | omega | (intros; (try dsimp only [Ty.T, Ty.size]); (try simp only [castL_self, Int.toNat_natCast, Int.toNat_zero, Int.toNat_one, true_and, List.length_append, List.length_set, List.length_drop, List.length_take, List.length_replicate, List.length_cons, List.length_nil, Nat.zero_add, Nat.mul_one]); omega) | decide | (intros; simp_all; done) | (intros; simp_all; omega)) ?_
        refine hK11 _ _ ?_
        clear hK11
        -- region 11
        refine AWPD.keep [5, 13, 14, 15] rfl ?_
        refine AWPD.region tabOK rfl ?_
        repeat refine And.intro (by first | exact fun h => h | exact fun _ => rfl | (intro h; rw [h]; rfl) | omega | (intros; (try dsimp only [Ty.T, Ty.size]); (try simp only [castL_self, Int.toNat_natCast, Int.toNat_zero, Int.toNat_one, true_and, List.length_append, List.length_set, List.length_drop, List.length_take, List.length_replicate, List.length_cons, List.length_nil, Nat.zero_add, Nat.mul_one]); omega) | decide | (intros; simp_all; done) | (intros; simp_all; omega)) ?_
        refine ⟨n0 - 1, i + 1, [1], by omega, by omega, ⟨by decide, rfl⟩, ⟨⟨rfl, rfl, clsP_new (fun j hj => hok j (by omega)) hpn _ (or_bit (by omega) (maskP_small (by omega)) _ (by rw [maskP_none (fun j hj => hok j (by omega)) (Int.le_refl _)]; show (clsP p i ++ [0]).getD (p.getD i 0).toNat 0 = 0; exact appd_get (by omega)))⟩, trivial⟩, ?_⟩
        repeat' first | exact True.intro | exact rfl | exact ⟨rfl, rfl⟩ | refine And.intro ?_ ?_
      · try dsimp only [Ty.T] at h2
        try simp only [castL_self] at h2
        try simp only [Int.toNat_natCast] at h2
        try simp only [Int.toNat_zero] at h2
        have hpi := hok i (by omega)
        have hpn : p.getD i 0 ≠ nextP p i := by omega
        refine AWPD.skip ?_
        refine hK13 _ _ ?_
        clear hK13
        -- region 10
        refine AWPD.keep [5, 6, 7, 13, 14, 15] rfl ?_
        refine AWPD.draw tabOK [8] rfl (by kernel_rfl) ?_
        repeat refine And.intro (by first | exact fun h => h | exact fun _ => rfl | (intro h; rw [h]; rfl) | omega | (intros; (try dsimp only [Ty.T, Ty.size]); (try simp only [castL_self, Int.toNat_natCast, Int.toNat_zero, Int.toNat_one, true_and, List.length_append, List.length_set, List.length_drop, List.length_take, List.length_replicate, List.length_cons, List.length_nil, Nat.zero_add, Nat.mul_one]); omega) | decide | (intros; simp_all; done) | (intros; simp_all; omega)) ?_
        refine hK11 _ _ ?_
        clear hK11
        -- region 11
        refine AWPD.keep [5, 13, 14, 15] rfl ?_
        refine AWPD.region tabOK rfl ?_
        repeat refine And.intro (by first | exact fun h => h | exact fun _ => rfl | (intro h; rw [h]; rfl) | omega | (intros; (try dsimp only [Ty.T, Ty.size]); (try simp only [castL_self, Int.toNat_natCast, Int.toNat_zero, Int.toNat_one, true_and, List.length_append, List.length_set, List.length_drop, List.length_take, List.length_replicate, List.length_cons, List.length_nil, Nat.zero_add, Nat.mul_one]); omega) | decide | (intros; simp_all; done) | (intros; simp_all; omega)) ?_
        refine ⟨n0 - 1, i + 1, [0], by omega, by omega, ⟨by decide, rfl⟩, ⟨⟨rfl, rfl, clsP_old hpn (hok i (by omega)) _ (or_bit (by omega) (maskP_small (by omega)) _ (by show (clsP p i).getD (p.getD i 0).toNat 0 = _; rw [clsP_get p i (by omega), show (((p.getD i 0).toNat : Nat) : Int) = p.getD i 0 by omega]))⟩, trivial⟩, ?_⟩
        repeat' first | exact True.intro | exact rfl | exact ⟨rfl, rfl⟩ | refine And.intro ?_ ?_
    · try dsimp only [Ty.T] at h1
      try simp only [castL_self] at h1
      try simp only [Int.toNat_natCast] at h1
      try simp only [Int.toNat_zero] at h1
      refine AWPD.exit ?_
      refine hK7 _ _ ?_
      clear hK7
      refine AWPD.seq fun K15 hK15 => ?_
      -- region 12
      refine AWPD.keep [5] rfl ?_
      refine AWPD.region tabOK rfl ?_
      refine hK15 _ _ ?_
      clear hK15
      refine AWPD.ret (And.intro (.inl rfl) ?_)
      -- result 1
      exact ⟨fitR rfl rfl (by unfold clsL; rw [if_pos hp, show p.length = i by omega]), fitE rfl hp.symm⟩

theorem lessN_zero {a b : Nat} : lessN a b = 0 ↔ ∀ i, a.testBit i = true → b.testBit i = true := by
  constructor
  · intro h i hi
    have := lessN_bit a b i
    rw [h, Nat.zero_testBit, hi] at this
    cases hb : b.testBit i with
    | true => rfl
    | false => rw [hb] at this; cases this
  · intro h
    refine Nat.eq_of_testBit_eq fun i => ?_
    rw [lessN_bit, Nat.zero_testBit]
    cases ha : a.testBit i with
    | false => rfl
    | true => rw [h i ha]; rfl
theorem lessN_half (a b : Nat) : lessN a b / 2 = lessN (a / 2) (b / 2) ∧ lessN a b % 2 = if a % 2 = 1 ∧ b % 2 = 0 then 1 else 0 := by
  constructor
  · refine Nat.eq_of_testBit_eq fun i => ?_
    rw [← Nat.testBit_succ, lessN_bit, lessN_bit, Nat.testBit_succ, Nat.testBit_succ]
  · have := congrArg (· = true) (lessN_bit a b 0)
    rw [Nat.testBit_zero, Nat.testBit_zero, Nat.testBit_zero] at this
    simp only [Bool.and_eq_true, decide_eq_true_eq, Bool.not_eq_true', decide_eq_false_iff_not, eq_iff_iff] at this
    generalize lessN a b = c at this
    split <;> omega
theorem sub_less : ∀ (a x : Nat), subN x a = true → x + lessN a x = a
  | 0, x, h => by
    have := subN_le h
    have hx : x = 0 := by omega
    subst hx
    rfl
  | a + 1, x, h => by
    have h' := h
    rw [sub_half, Bool.and_eq_true] at h'
    have ih := sub_less ((a + 1) / 2) (x / 2) h'.2
    have hh := lessN_half (a + 1) x
    have h1 := h'.1
    simp only [Bool.not_eq_true', Bool.and_eq_false_iff, beq_eq_false_iff_ne] at h1
    generalize lessN (a + 1) x = c at hh ⊢
    rw [← hh.1] at ih
    have h2 := hh.2
    split at h2 <;> omega
theorem clsL_ok {p : List Int} (hp : partE p = 0) : clsL p = clsP p p.length := by unfold clsL; rw [if_pos hp]
theorem cls_get {p : List Int} (hp : partE p = 0) {k : Nat} (hk : k < (nextP p p.length).toNat) : (clsL p).getD k 0 = ((maskP p (k : Int) p.length : Nat) : Int) := by
  rw [clsL_ok hp, clsP_get p p.length hk]
/-- What one knows: the classes that lie in the event. -/
def insF (p : List Int) (e : Nat) : Nat → Nat
  | 0 => 0
  | k + 1 => if lessN (maskP p (k : Int) p.length) e = 0 then insF p e k ||| maskP p (k : Int) p.length else insF p e k
theorem insF_lt {p : List Int} (hl : p.length ≤ 12) (e : Nat) : ∀ k, insF p e k < 4096
  | 0 => by simp [insF]
  | k + 1 => by
    have ih := insF_lt hl e k
    have := maskP_small (p := p) (k := (k : Int)) hl
    unfold insF
    split
    · exact Nat.or_lt_two_pow (n := 12) ih this
    · exact ih
theorem insF_yes {p : List Int} (hp : partE p = 0) {e : Int} (he : 0 ≤ e ∧ e ≤ 4095) {k : Nat} (hk : k < (nextP p p.length).toNat) (h : bitsI .andNot ((clsL p).getD k 0) e = 0) :
    bitsI .or ((insF p e.toNat k : Nat) : Int) ((clsL p).getD k 0) = ((insF p e.toNat (k + 1) : Nat) : Int) := by
  obtain ⟨hl, hok⟩ := partE_good hp
  have h1 := maskP_small (p := p) (k := (k : Int)) hl
  have h2 := insF_lt hl e.toNat k
  rw [cls_get hp hk] at h ⊢
  rw [bits_less (by omega) (by omega), Int.toNat_natCast] at h
  rw [bits_or (by omega) (by omega), Int.toNat_natCast, Int.toNat_natCast, insF, if_pos (by omega)]
theorem insF_no {p : List Int} (hp : partE p = 0) {e : Int} (he : 0 ≤ e ∧ e ≤ 4095) {k : Nat} (hk : k < (nextP p p.length).toNat) (h : ¬bitsI .andNot ((clsL p).getD k 0) e = 0) :
    ((insF p e.toNat k : Nat) : Int) = ((insF p e.toNat (k + 1) : Nat) : Int) := by
  obtain ⟨hl, hok⟩ := partE_good hp
  have h1 := maskP_small (p := p) (k := (k : Int)) hl
  rw [cls_get hp hk, bits_less (by omega) (by omega), Int.toNat_natCast] at h
  rw [insF, if_neg (by omega)]
theorem insF_bit (p : List Int) (e j : Nat) : ∀ K, (insF p e K).testBit j = true ↔ ∃ k : Nat, k < K ∧ (∀ i, i < p.length → p.getD i 0 = (k : Int) → e.testBit i = true) ∧ j < p.length ∧ p.getD j 0 = (k : Int)
  | 0 => by simp [insF]
  | K + 1 => by
    have ih := insF_bit p e j K
    have hm : lessN (maskP p (K : Int) p.length) e = 0 ↔ ∀ i, i < p.length → p.getD i 0 = (K : Int) → e.testBit i = true := by
      rw [lessN_zero]
      constructor
      · intro h i hi hk
        exact h i (by rw [maskP_bit, decide_eq_true hi, decide_eq_true hk]; rfl)
      · intro h i hi
        rw [maskP_bit, Bool.and_eq_true, decide_eq_true_eq, decide_eq_true_eq] at hi
        exact h i hi.1 hi.2
    have step : (insF p e (K + 1)).testBit j = true ↔ (insF p e K).testBit j = true ∨ ((∀ i, i < p.length → p.getD i 0 = (K : Int) → e.testBit i = true) ∧ j < p.length ∧ p.getD j 0 = (K : Int)) := by
      rw [insF]
      by_cases h : lessN (maskP p (K : Int) p.length) e = 0
      · rw [if_pos h, Nat.testBit_or, Bool.or_eq_true, maskP_bit, Bool.and_eq_true, decide_eq_true_eq, decide_eq_true_eq]
        exact or_congr Iff.rfl ⟨fun h2 => ⟨hm.1 h, h2⟩, fun h2 => h2.2⟩
      · rw [if_neg h]
        exact ⟨.inl, fun h2 => h2.elim id fun h3 => absurd (hm.2 h3.1) h⟩
    rw [step, ih]
    constructor
    · rintro (⟨k, hk, h⟩ | h)
      · exact ⟨k, by omega, h⟩
      · exact ⟨K, by omega, h⟩
    · rintro ⟨k, hk, h⟩
      by_cases hkK : k = K
      · subst hkK; exact .inr h
      · exact .inl ⟨k, by omega, h⟩
def knowN (p : List Int) (e : Nat) : Nat := insF p e (nextP p p.length).toNat
theorem class_lt {p : List Int} (hp : partE p = 0) {j : Nat} (hj : j < p.length) : 0 ≤ p.getD j 0 ∧ p.getD j 0 < nextP p p.length := by
  obtain ⟨hl, hok⟩ := partE_good hp
  have h1 := hok j hj
  have h2 := nextP_mono p (show j + 1 ≤ p.length by omega)
  by_cases h3 : p.getD j 0 = nextP p j
  · rw [nextP, if_pos h3] at h2; omega
  · rw [nextP, if_neg h3] at h2; omega
theorem knowN_bit {p : List Int} (hp : partE p = 0) {e j : Nat} : (knowN p e).testBit j = true ↔ j < p.length ∧ ∀ i, i < p.length → p.getD i 0 = p.getD j 0 → e.testBit i = true := by
  unfold knowN
  rw [insF_bit]
  constructor
  · rintro ⟨k, _, h1, h2, h3⟩
    exact ⟨h2, fun i hi he => h1 i hi (by rw [he, h3])⟩
  · rintro ⟨h1, h2⟩
    have := class_lt hp h1
    exact ⟨(p.getD j 0).toNat, by omega, fun i hi he => h2 i hi (by rw [he]; omega), h1, by omega⟩
theorem knowN_lt {p : List Int} (hp : partE p = 0) (e : Nat) : knowN p e < 2 ^ p.length := by
  refine Nat.lt_pow_two_of_testBit _ fun i hi => ?_
  cases h : (knowN p e).testBit i with
  | false => rfl
  | true => have := (knowN_bit hp).1 h; omega
theorem knowN_small {p : List Int} (hp : partE p = 0) (e : Nat) : knowN p e < 4096 := insF_lt (partE_good hp).1 e _

theorem inside_fn (p : List Int) (e : Int) (hp : partE p = 0) (he : 0 ≤ e ∧ e ≤ 4095) : LiftsD Tryd.prog 50 [.sl .int p, .i e] (.i ((knowN p e.toNat : Nat) : Int)) := by
  obtain ⟨hl, hok⟩ := partE_good hp
  have hcl := clsP_len p p.length
  rw [← clsL_ok hp] at hcl
  have hne := nextP_in p p.length
  refine LiftsD.of_body 30 [.tmp 4] Tryd.func50 rfl Tryd.ntmps50 (by kernel_rfl) rfl rfl fun w0 X0 => ?_
  refine AWPD.seq fun K1 hK1 => ?_
  -- region 0
  refine AWPD.keep [0, 1] rfl ?_
  refine AWPD.region tabOK rfl ?_
  refine hK1 _ _ ?_
  clear hK1
  refine AWPD.seq fun K2 hK2 => ?_
  -- region 1
  refine AWPD.keep [0, 1] rfl ?_
  refine AWPD.region tabOK rfl ?_
  refine hK2 _ _ ?_
  clear hK2
  refine AWPD.seq fun K3 hK3 => ?_
  -- region 2
  refine AWPD.keep [0, 1, 5] rfl ?_
  refine AWPD.region tabOK rfl ?_
  refine Exists.intro _ (Exists.intro _ (And.intro (StepD.call (classes_fn _) rfl rfl rfl) (And.intro rfl (And.intro trivial ?_))))
  refine hK3 _ _ ?_
  clear hK3
  refine AWPD.seq fun K4 hK4 => ?_
  refine AWPD.seq fun K5 hK5 => ?_
  -- region 3
  refine AWPD.keep [1, 5, 6] rfl ?_
  refine AWPD.region tabOK rfl ?_
  refine hK5 _ _ ?_
  clear hK5
  refine AWPD.block ?_
  -- LOOP 0 live [1, 5, 15, 16, 17] changed [5, 17]
  refine AWPD.loopK (σ := Nat) [1, 15, 16] (fun k base => (5, .i ((insF p e.toNat k : Nat) : Int)) :: (17, .i (k : Int)) :: base) (fun _ => []) (fun n k => n + k = (clsL p).length) ((clsL p).length) 0 [] rfl rfl (by omega) (by decide) trivial (by repeat' first | exact True.intro | exact rfl | exact ⟨rfl, rfl⟩ | refine And.intro ?_ ?_) fun n0 k hI0 => ?_
  have hn0 := hI0
  refine AWPD.seq fun K6 hK6 => ?_
  -- region 4
  refine AWPD.keep [1, 5, 15, 16, 17] rfl ?_
  refine AWPD.region tabOK rfl ?_
  refine hK6 _ _ ?_
  clear hK6
  refine AWPD.seq fun K7 hK7 => ?_
  first | refine AWPD.condP rfl (fun h0 => ?_) (fun h0 => ?_) | refine AWPD.condN rfl (fun h0 => ?_) (fun h0 => ?_) | refine AWPD.condAP rfl (fun h0 => ?_) (fun h0 => ?_) | refine AWPD.condOP rfl (fun h0 => ?_) (fun h0 => ?_) | refine AWPD.condONN rfl (fun h0 => ?_) (fun h0 => ?_) | refine AWPD.condOPN rfl (fun h0 => ?_) (fun h0 => ?_) | refine AWPD.condA rfl (fun h0 => ?_) (fun h0 => ?_) | refine AWPD.condO rfl (fun h0 => ?_) (fun h0 => ?_) | refine AWPD.cond rfl (fun h0 => ?_) (fun h0 => ?_)
  · try dsimp only [Ty.T] at h0
    try simp only [castL_self] at h0
    try simp only [Int.toNat_natCast] at h0
    try simp only [Int.toNat_zero] at h0
    refine AWPD.skip ?_
    refine hK7 _ _ ?_
    clear hK7
    refine AWPD.seq fun K8 hK8 => ?_
    refine AWPD.block ?_
    refine AWPD.seq fun K9 hK9 => ?_
    -- region 5
    refine AWPD.keep [1, 5, 15, 16, 17] rfl ?_
    refine AWPD.region tabOK rfl ?_
    repeat refine And.intro (by first | exact fun h => h | exact fun _ => rfl | (intro h; rw [h]; rfl) | omega | (intros; (try dsimp only [Ty.T, Ty.size]); (try simp only [castL_self, Int.toNat_natCast, Int.toNat_zero, Int.toNat_one, true_and, List.length_append, List.length_set, List.length_drop, List.length_take, List.length_replicate, List.length_cons, List.length_nil, Nat.zero_add, Nat.mul_one]); omega) | decide | (intros; simp_all; done) | (intros; simp_all; omega)) ?_
    refine hK9 _ _ ?_
    clear hK9
    refine AWPD.seq fun K10 hK10 => ?_
    -- region 6
    refine AWPD.keep [1, 5, 9, 15, 16, 17] rfl ?_
    refine AWPD.region tabOK rfl ?_
    refine hK10 _ _ ?_
    clear hK10
    first | refine AWPD.condP rfl (fun h1 => ?_) (fun h1 => ?_) | refine AWPD.condN rfl (fun h1 => ?_) (fun h1 => ?_) | refine AWPD.condAP rfl (fun h1 => ?_) (fun h1 => ?_) | refine AWPD.condOP rfl (fun h1 => ?_) (fun h1 => ?_) | refine AWPD.condONN rfl (fun h1 => ?_) (fun h1 => ?_) | refine AWPD.condOPN rfl (fun h1 => ?_) (fun h1 => ?_) | refine AWPD.condA rfl (fun h1 => ?_) (fun h1 => ?_) | refine AWPD.condO rfl (fun h1 => ?_) (fun h1 => ?_) | refine AWPD.cond rfl (fun h1 => ?_) (fun h1 => ?_)
    · try dsimp only [Ty.T] at h1
      try simp only [castL_self] at h1
      try simp only [Int.toNat_natCast] at h1
      try simp only [Int.toNat_zero] at h1
      -- region 7
      refine AWPD.keep [1, 5, 9, 15, 16, 17] rfl ?_
      refine AWPD.region tabOK rfl ?_
      refine hK8 _ _ ?_
      clear hK8
      -- region 8
      refine AWPD.keep [1, 5, 15, 16, 17] rfl ?_
      refine AWPD.region tabOK rfl ?_
      repeat refine And.intro (by first | exact fun h => h | exact fun _ => rfl | (intro h; rw [h]; rfl) | omega | (intros; (try dsimp only [Ty.T, Ty.size]); (try simp only [castL_self, Int.toNat_natCast, Int.toNat_zero, Int.toNat_one, true_and, List.length_append, List.length_set, List.length_drop, List.length_take, List.length_replicate, List.length_cons, List.length_nil, Nat.zero_add, Nat.mul_one]); omega) | decide | (intros; simp_all; done) | (intros; simp_all; omega)) ?_
      refine ⟨n0 - 1, k + 1, [], by omega, by omega, ⟨by decide, rfl⟩, trivial, ?_⟩
      repeat' first | exact insF_yes hp he (by omega) h1 | exact insF_no hp he (by omega) h1 | exact True.intro | exact rfl | exact ⟨rfl, rfl⟩ | refine And.intro ?_ ?_
    · try dsimp only [Ty.T] at h1
      try simp only [castL_self] at h1
      try simp only [Int.toNat_natCast] at h1
      try simp only [Int.toNat_zero] at h1
      refine AWPD.skip ?_
      refine hK8 _ _ ?_
      clear hK8
      -- region 8
      refine AWPD.keep [1, 5, 15, 16, 17] rfl ?_
      refine AWPD.region tabOK rfl ?_
      repeat refine And.intro (by first | exact fun h => h | exact fun _ => rfl | (intro h; rw [h]; rfl) | omega | (intros; (try dsimp only [Ty.T, Ty.size]); (try simp only [castL_self, Int.toNat_natCast, Int.toNat_zero, Int.toNat_one, true_and, List.length_append, List.length_set, List.length_drop, List.length_take, List.length_replicate, List.length_cons, List.length_nil, Nat.zero_add, Nat.mul_one]); omega) | decide | (intros; simp_all; done) | (intros; simp_all; omega)) ?_
      refine ⟨n0 - 1, k + 1, [], by omega, by omega, ⟨by decide, rfl⟩, trivial, ?_⟩
      repeat' first | exact insF_yes hp he (by omega) h1 | exact insF_no hp he (by omega) h1 | exact True.intro | exact rfl | exact ⟨rfl, rfl⟩ | refine And.intro ?_ ?_
  · try dsimp only [Ty.T] at h0
    try simp only [castL_self] at h0
    try simp only [Int.toNat_natCast] at h0
    try simp only [Int.toNat_zero] at h0
    refine AWPD.exit ?_
    refine hK4 _ _ ?_
    clear hK4
    refine AWPD.seq fun K11 hK11 => ?_
    -- region 9
    refine AWPD.keep [5] rfl ?_
    refine AWPD.region tabOK rfl ?_
    refine hK11 _ _ ?_
    clear hK11
    refine AWPD.ret (And.intro (.inl rfl) ?_)
    -- result 0
    refine RetD.one ?_
    exact fitI rfl (by unfold knowN; rw [show k = (nextP p p.length).toNat by omega])

def knE (p : List Int) (e : Int) : Int := if partE p ≠ 0 then partE p else if maskB e p.length = true then 0 else 1
def knV (p : List Int) (e : Int) : Int := if knE p e = 0 then ((knowN p e.toNat : Nat) : Int) else 0
theorem knE_ok {p : List Int} {e : Int} (h : knE p e = 0) : partE p = 0 ∧ maskB e p.length = true := by
  unfold knE at h
  split at h
  · rename_i h1; exact absurd h h1
  · split at h
    · rename_i h1 h2; exact ⟨by omega, h2⟩
    · cases h
theorem knE_zero {p : List Int} {e : Int} (hp : partE p = 0) (he : maskB e p.length = true) : knE p e = 0 := by
  unfold knE; rw [if_neg (by omega), if_pos he]
theorem mask_in {p : List Int} (hp : partE p = 0) {e : Int} (he : maskB e p.length = true) : 0 ≤ e ∧ e ≤ 4095 ∧ e.toNat < 2 ^ p.length := by
  have h := of_decide_eq_true he
  have hl := (partE_good hp).1
  rw [Int.toNat_natCast] at h
  have h2 : (2 : Nat) ^ p.length ≤ 4096 := Nat.pow_le_pow_right (by decide) hl
  omega
theorem mask_of {p : List Int} {e : Nat} (h : e < 2 ^ p.length) : maskB (e : Int) p.length = true := by
  unfold maskB
  rw [Int.toNat_natCast]
  exact decide_eq_true ⟨by omega, by omega⟩

theorem knows_fn (p : List Int) (e : Int) : LiftsD Tryd.prog 14 [.sl .int p, .i e] (.tup [.i (knV p e), .er 66 (knE p e)]) := by
  refine LiftsD.of_body 21 [.tmp 4, .tmp 5] Tryd.func14 rfl Tryd.ntmps14 (by kernel_rfl) rfl rfl fun w0 X0 => ?_
  refine AWPD.seq fun K1 hK1 => ?_
  -- region 0
  refine AWPD.keep [0, 1] rfl ?_
  refine AWPD.region tabOK rfl ?_
  refine hK1 _ _ ?_
  clear hK1
  refine AWPD.seq fun K2 hK2 => ?_
  refine AWPD.seq fun K3 hK3 => ?_
  -- region 1
  refine AWPD.keep [0, 1] rfl ?_
  refine AWPD.region tabOK rfl ?_
  refine Exists.intro _ (Exists.intro _ (And.intro (StepD.call (part_fn _) rfl rfl rfl) (And.intro rfl (And.intro trivial ?_))))
  refine hK3 _ _ ?_
  clear hK3
  refine AWPD.seq fun K4 hK4 => ?_
  -- region 2
  refine AWPD.keep [0, 1, 6] rfl ?_
  refine AWPD.region tabOK rfl ?_
  refine hK4 _ _ ?_
  clear hK4
  first | refine AWPD.condP rfl (fun h0 => ?_) (fun h0 => ?_) | refine AWPD.condN rfl (fun h0 => ?_) (fun h0 => ?_) | refine AWPD.condAP rfl (fun h0 => ?_) (fun h0 => ?_) | refine AWPD.condOP rfl (fun h0 => ?_) (fun h0 => ?_) | refine AWPD.condONN rfl (fun h0 => ?_) (fun h0 => ?_) | refine AWPD.condOPN rfl (fun h0 => ?_) (fun h0 => ?_) | refine AWPD.condA rfl (fun h0 => ?_) (fun h0 => ?_) | refine AWPD.condO rfl (fun h0 => ?_) (fun h0 => ?_) | refine AWPD.cond rfl (fun h0 => ?_) (fun h0 => ?_)
  · try dsimp only [Ty.T] at h0
    try simp only [castL_self] at h0
    try simp only [Int.toNat_natCast] at h0
    try simp only [Int.toNat_zero] at h0
    refine AWPD.seq fun K5 hK5 => ?_
    -- region 3
    refine AWPD.keep [6] rfl ?_
    refine AWPD.region tabOK rfl ?_
    refine hK5 _ _ ?_
    clear hK5
    refine AWPD.ret (And.intro (.inl rfl) ?_)
    -- result 0
    exact ⟨fitI rfl (by simp [knV, knE, h0]), fitE rfl (by simp [knE, h0])⟩
  · try dsimp only [Ty.T] at h0
    try simp only [castL_self] at h0
    try simp only [Int.toNat_natCast] at h0
    try simp only [Int.toNat_zero] at h0
    have hp : partE p = 0 := by simpa using h0
    obtain ⟨hl, hok⟩ := partE_good hp
    refine AWPD.skip ?_
    refine hK2 _ _ ?_
    clear hK2
    refine AWPD.seq fun K6 hK6 => ?_
    refine AWPD.seq fun K7 hK7 => ?_
    -- region 4
    refine AWPD.keep [0, 1] rfl ?_
    refine AWPD.region tabOK rfl ?_
    refine Exists.intro _ (Exists.intro _ (And.intro (StepD.call (mask_fn _ _ (by omega)) rfl rfl rfl) (And.intro rfl (And.intro trivial ?_))))
    refine hK7 _ _ ?_
    clear hK7
    first | refine AWPD.cond rfl (fun h1 => ?_) (fun h1 => ?_)
    · try dsimp only [Ty.T] at h1
      try simp only [castL_self] at h1
      try simp only [Int.toNat_natCast] at h1
      try simp only [Int.toNat_zero] at h1
      have hm : ¬maskB e p.length = true := by simpa using h1
      refine AWPD.seq fun K8 hK8 => ?_
      -- region 5
      refine AWPD.keep [] rfl ?_
      refine AWPD.region tabOK rfl ?_
      repeat refine And.intro (by first | exact fun h => h | exact fun _ => rfl | (intro h; rw [h]; rfl) | omega | (intros; (try dsimp only [Ty.T, Ty.size]); (try simp only [castL_self, Int.toNat_natCast, Int.toNat_zero, Int.toNat_one, true_and, List.length_append, List.length_set, List.length_drop, List.length_take, List.length_replicate, List.length_cons, List.length_nil, Nat.zero_add, Nat.mul_one]); omega) | decide | (intros; simp_all; done) | (intros; simp_all; omega)) ?_
      refine hK8 _ _ ?_
      clear hK8
      refine AWPD.ret (And.intro (.inl rfl) ?_)
      -- result 1
      exact ⟨fitI rfl (by simp [knV, knE, hp, hm]), fitE rfl (by simp [knE, hp, hm])⟩
    · try dsimp only [Ty.T] at h1
      try simp only [castL_self] at h1
      try simp only [Int.toNat_natCast] at h1
      try simp only [Int.toNat_zero] at h1
      have hm : maskB e p.length = true := by simpa using h1
      have hmi := mask_in hp hm
      refine AWPD.skip ?_
      refine hK6 _ _ ?_
      clear hK6
      refine AWPD.seq fun K9 hK9 => ?_
      -- region 6
      refine AWPD.keep [0, 1] rfl ?_
      refine AWPD.region tabOK rfl ?_
      refine Exists.intro _ (Exists.intro _ (And.intro (StepD.call (inside_fn _ _ hp (by omega)) rfl rfl rfl) (And.intro rfl (And.intro trivial ?_))))
      refine hK9 _ _ ?_
      clear hK9
      refine AWPD.ret (And.intro (.inl rfl) ?_)
      -- result 2
      exact ⟨fitI rfl (by simp [knV, knE, hp, hm]), fitE rfl (by simp [knE, hp, hm])⟩

theorem knV_ok {p : List Int} {e : Int} (hp : partE p = 0) (he : maskB e p.length = true) : knV p e = ((knowN p e.toNat : Nat) : Int) := by
  unfold knV; rw [if_pos (knE_zero hp he)]
theorem all_bit (n i : Nat) : (powN n - 1).testBit i = decide (i < n) := by unfold powN; exact Nat.testBit_two_pow_sub_one n i
theorem know_sub {p : List Int} (hp : partE p = 0) (e : Nat) : subN (knowN p e) e = true := subN_iff.2 fun i hi => let ⟨h1, h2⟩ := (knowN_bit hp).1 hi; h2 i h1 rfl
theorem know_again {p : List Int} (hp : partE p = 0) (e : Nat) : knowN p (knowN p e) = knowN p e := by
  refine Nat.eq_of_testBit_eq fun j => Bool.eq_iff_iff.2 ?_
  rw [knowN_bit hp]
  constructor
  · rintro ⟨h1, h2⟩; exact h2 j h1 rfl
  · intro h
    have h' := (knowN_bit hp).1 h
    exact ⟨h'.1, fun i hi he => (knowN_bit hp).2 ⟨hi, fun k hk hke => h'.2 k hk (by rw [hke, he])⟩⟩
theorem know_not {p : List Int} (hp : partE p = 0) (e : Nat) : knowN p (lessN (powN p.length - 1) (knowN p e)) = lessN (powN p.length - 1) (knowN p e) := by
  refine Nat.eq_of_testBit_eq fun j => Bool.eq_iff_iff.2 ?_
  rw [knowN_bit hp, lessN_bit, all_bit, Bool.and_eq_true, decide_eq_true_eq, Bool.not_eq_true']
  constructor
  · rintro ⟨h1, h2⟩
    have := h2 j h1 rfl
    rw [lessN_bit, Bool.and_eq_true, Bool.not_eq_true'] at this
    exact ⟨h1, this.2⟩
  · rintro ⟨h1, h2⟩
    refine ⟨h1, fun i hi he => ?_⟩
    rw [lessN_bit, all_bit, decide_eq_true hi, Bool.true_and, Bool.not_eq_true']
    cases h : (knowN p e).testBit i with
    | false => rfl
    | true =>
      have h' := (knowN_bit hp).1 h
      have : (knowN p e).testBit j = true := (knowN_bit hp).2 ⟨h1, fun k hk hke => h'.2 k hk (by rw [hke, he])⟩
      rw [h2] at this
      cases this
theorem know_both {p : List Int} (hp : partE p = 0) (a b : Nat) : knowN p (a &&& b) = knowN p a &&& knowN p b := by
  refine Nat.eq_of_testBit_eq fun j => Bool.eq_iff_iff.2 ?_
  rw [Nat.testBit_and, Bool.and_eq_true, knowN_bit hp, knowN_bit hp, knowN_bit hp]
  simp only [Nat.testBit_and, Bool.and_eq_true]
  exact ⟨fun h => ⟨⟨h.1, fun i hi he => (h.2 i hi he).1⟩, ⟨h.1, fun i hi he => (h.2 i hi he).2⟩⟩, fun h => ⟨h.1.1, fun i hi he => ⟨h.1.2 i hi he, h.2.2 i hi he⟩⟩⟩
theorem know_all {p : List Int} (hp : partE p = 0) : knowN p (powN p.length - 1) = powN p.length - 1 := by
  refine Nat.eq_of_testBit_eq fun j => Bool.eq_iff_iff.2 ?_
  rw [knowN_bit hp, all_bit, decide_eq_true_eq]
  exact ⟨fun h => h.1, fun h => ⟨h, fun i hi _ => by rw [all_bit, decide_eq_true hi]⟩⟩
theorem less_all {n x : Nat} (h : x < 2 ^ n) : ((powN n : Nat) : Int) - 1 - (x : Int) = ((lessN (powN n - 1) x : Nat) : Int) ∧ lessN (powN n - 1) x < 2 ^ n := by
  have hs : subN x (powN n - 1) = true := subN_iff.2 fun i hi => by
    rw [all_bit, decide_eq_true_eq]
    rcases Nat.lt_or_ge i n with h1 | h1
    · exact h1
    · rw [Nat.testBit_lt_two_pow (Nat.lt_of_lt_of_le h (Nat.pow_le_pow_right (by decide) h1))] at hi
      cases hi
  have h1 := sub_less _ _ hs
  have h2 := powN_pos n
  have h3 := lessN_le (powN n - 1) x
  refine ⟨by omega, ?_⟩
  unfold powN at h2 h3 ⊢
  omega
theorem know_rules {p : List Int} (hp : partE p = 0) {a b : Int} (ha : maskB a p.length = true) (hb : maskB b p.length = true) :
    knE p (knV p a) = 0 ∧ knV p (knV p a) = knV p a ∧ knE p (((powN p.length : Nat) : Int) - 1 - knV p a) = 0 ∧ knV p (((powN p.length : Nat) : Int) - 1 - knV p a) = ((powN p.length : Nat) : Int) - 1 - knV p a ∧
    knE p ((a.toNat &&& b.toNat : Nat) : Int) = 0 ∧ knV p ((a.toNat &&& b.toNat : Nat) : Int) = (((knV p a).toNat &&& (knV p b).toNat : Nat) : Int) ∧ knE p (((powN p.length : Nat) : Int) - 1) = 0 ∧ knV p (((powN p.length : Nat) : Int) - 1) = ((powN p.length : Nat) : Int) - 1 ∧ subN (knV p a).toNat a.toNat = true := by
  have ma := mask_in hp ha
  have mb := mask_in hp hb
  have ka := knowN_lt hp a.toNat
  have m1 := mask_of ka
  have la := less_all ka
  have m2 := mask_of la.2
  have hpp := powN_pos p.length
  have eall : ((powN p.length : Nat) : Int) - 1 = ((powN p.length - 1 : Nat) : Int) := by omega
  have m3 : maskB ((powN p.length - 1 : Nat) : Int) p.length = true := mask_of (by unfold powN at hpp ⊢; omega)
  have m4 : maskB ((a.toNat &&& b.toNat : Nat) : Int) p.length = true := mask_of (Nat.lt_of_le_of_lt Nat.and_le_left ma.2.2)
  rw [knV_ok hp ha, knV_ok hp hb, la.1, eall]
  refine ⟨knE_zero hp m1, ?_, knE_zero hp m2, ?_, knE_zero hp m4, ?_, knE_zero hp m3, ?_, ?_⟩
  · rw [knV_ok hp m1, Int.toNat_natCast, know_again hp]
  · rw [knV_ok hp m2, Int.toNat_natCast, know_not hp]
  · rw [knV_ok hp m4, Int.toNat_natCast, Int.toNat_natCast, Int.toNat_natCast, know_both hp]
  · rw [knV_ok hp m3, Int.toNat_natCast, know_all hp]
  · rw [Int.toNat_natCast]; exact know_sub hp _
theorem knV_no {p : List Int} {e : Int} (h : knE p e ≠ 0) : knV p e = 0 := by unfold knV; rw [if_neg h]

end Go.Proofs.YtkdihpajgmiolaaDoor
