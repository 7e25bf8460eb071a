/-
  WALK of the law AnonSays.
-/
import Derived.Test.YtmeacgkhabnjlaaDoorQwRn
import Derived.Test.YtmeacgkhabnjlaaDoorQwEr
import Derived.Test.YtmeacgkhabnjlaaDoorQwSc
namespace Go.Proofs.YtmeacgkhabnjlaaDoor
open Go Go.Qw
set_option maxRecDepth 10000
set_option linter.unusedSimpArgs false
set_option linter.unusedVariables false
set_option linter.unusedSectionVars false
set_option maxHeartbeats 2000000


def blA (t : List (List Int)) (l : List Int) : List (List Int) := if heightsE t l = 0 then blurT t l else []
def fewA (t : List (List Int)) (l : List Int) : Int := if heightsE t l = 0 then (fewV t l : Int) else 0
theorem blA_ok (t : List (List Int)) (l : List Int) : (blA t l).length ≤ 1000000 ∧ ∀ i, i < (blA t l).length → ((blA t l).getD i []).length ≤ 1000000 := by
  unfold blA
  by_cases h : heightsE t l = 0
  · rw [if_pos h]
    have g := (heights_good h).rows
    have gf := g.few
    have gc := g.cols
    have hl : (blurT t l).length = t.length := blurTo_len t l t.length
    refine ⟨by omega, fun i hi => ?_⟩
    rw [blurT_get (by omega), show (blurR (t.getD i []) l).length = (t.getD i []).length from blurQ_len _ _ _, g.len i (by omega)]
    omega
  · rw [if_neg h]; exact ⟨by simp, fun i hi => by simp at hi⟩
theorem low_ok {t : List (List Int)} (m : Int) (hz : rowsE t = 0) : (lowL t m (t.getD 0 []).length (4 ^ (t.getD 0 []).length)).length ≤ 1000000 ∧ ∀ i, i < (lowL t m (t.getD 0 []).length (4 ^ (t.getD 0 []).length)).length → ((lowL t m (t.getD 0 []).length (4 ^ (t.getD 0 []).length)).getD i []).length ≤ 1000000 := by
  have gc := (rows_good hz).cols
  have h1 := lowL_len (t := t) (m := m) (n := (t.getD 0 []).length) (4 ^ (t.getD 0 []).length)
  have h2 := pow_few gc
  refine ⟨by omega, fun i hi => ?_⟩
  rw [lowL_row (getD_mem hi [])]
  omega
theorem lowE_zero {t : List (List Int)} {m : Int} (h : lowE t m = 0) : rowsE t = 0 := by
  unfold lowE at h
  by_cases h0 : rowsE t = 0
  · exact h0
  · rw [if_pos h0] at h; exact absurd h h0
theorem lowE_t {t : List (List Int)} {m : Int} (h : (bif decide (rowsE t = 0) then (bif decide (m < 1) then true else decide (40 < m)) else false) = true) : (1 : Int) = lowE t m := by
  simp only [Bool.cond_false_right, Bool.cond_true_left, Bool.and_eq_true, Bool.or_eq_true, decide_eq_true_eq] at h
  unfold lowE
  rw [if_neg (fun hh => hh h.1), if_neg (by omega)]
theorem lowE_f {t : List (List Int)} {m : Int} (h : (bif decide (rowsE t = 0) then (bif decide (m < 1) then true else decide (40 < m)) else false) = false) : rowsE t = lowE t m := by
  unfold lowE
  by_cases h0 : rowsE t = 0
  · simp only [h0, decide_true, cond_true, Bool.cond_true_left, Bool.or_eq_false_iff, decide_eq_false_iff_not] at h
    rw [if_neg (fun hh => hh h0), if_pos (by omega), h0]
  · rw [if_pos h0]

theorem anonSays_fn (t : List (List Int)) (l : List Int) (m : Int) : LiftsG Tryd.prog errG 5 [.sl (.sl .int) t, .sl .int l, .i m] (.b true) := by
  refine LiftsG.of_body 101 [.tmp 6] Tryd.func5 rfl Tryd.ntmps5 (by kernel_rfl) rfl rfl fun w0 X0 hG0 => ?_
  refine AWPD.seq fun K1 hK1 => ?_
  -- region 0
  refine AWPD.keep [0, 1, 2] rfl ?_
  refine AWPD.region tabOK rfl ?_
  refine hK1 _ _ ?_
  clear hK1
  refine AWPD.seq fun K2 hK2 => ?_
  -- region 1
  refine AWPD.keep [0, 1, 2] rfl ?_
  refine AWPD.region tabOK rfl ?_
  refine Exists.intro _ (Exists.intro _ (And.intro (StepD.call (rrows_fn _) rfl rfl rfl) (And.intro rfl (And.intro trivial ?_))))
  refine hK2 _ _ ?_
  clear hK2
  refine AWPD.seq fun K3 hK3 => ?_
  -- region 2
  refine AWPD.keep [0, 1, 2, 7] rfl ?_
  refine AWPD.region tabOK rfl ?_
  refine Exists.intro _ (Exists.intro _ (And.intro (StepD.call (anCheck_fn _) rfl rfl rfl) (And.intro rfl (And.intro trivial ?_))))
  refine Exists.intro _ (Exists.intro _ (And.intro (StepD.callG errG_stays rfl hG0 (error_fn _ _) rfl rfl rfl) (And.intro rfl (And.intro trivial ?_))))
  refine hK3 _ _ ?_
  clear hK3
  refine AWPD.seq fun K4 hK4 => ?_
  -- region 3
  refine AWPD.keep [0, 1, 2, 7, 8] rfl ?_
  refine AWPD.region tabOK rfl ?_
  refine Exists.intro _ (Exists.intro _ (And.intro (StepD.call (rheights_fn _ _) rfl rfl rfl) (And.intro rfl (And.intro trivial ?_))))
  refine hK4 _ _ ?_
  clear hK4
  refine AWPD.seq fun K5 hK5 => ?_
  -- region 4
  refine AWPD.keep [0, 1, 2, 7, 8, 9] rfl ?_
  refine AWPD.region tabOK rfl ?_
  refine hK5 _ _ ?_
  clear hK5
  refine AWPD.seq fun K6 hK6 => ?_
  -- region 5
  refine AWPD.keep [0, 1, 2, 7, 8, 9, 10, 11] rfl ?_
  refine AWPD.region tabOK rfl ?_
  refine hK6 _ _ ?_
  clear hK6
  refine AWPD.seq fun K7 hK7 => ?_
  have tail7 : ∀ (fr : DF) (b8 : Bool) (bl : List (List Int)) (k12 : Int), keepF fr [0, 1, 2, 7, 8, 9, 10, 11, 12] [] = some [(12, .i k12), (11, .nil), (10, .sl (.sl .int) bl), (9, .i (heightsE t l)), (8, .b b8), (7, .i (rowsE t)), (2, .i m), (1, .sl .int l), (0, .sl (.sl .int) t)] → (b8 = true ∧ bl = blA t l ∧ k12 = fewA t l) → K7 fr [] := by
    intro fr b8 bl k12 hkf hs
    refine hK7 fr [] (AWPD.keep [0, 1, 2, 7, 8, 9, 10, 11, 12] hkf ?_)
    clear hkf hK7
    obtain ⟨rfl, rfl, rfl⟩ := hs
    have hA := blA_ok t l
    refine AWPD.seq fun K8 hK8 => ?_
    -- region 9
    refine AWPD.keep [0, 1, 2, 7, 8, 9, 10, 11, 12] rfl ?_
    refine AWPD.region tabOK rfl ?_
    refine Exists.intro _ (Exists.intro _ (And.intro (StepD.call (Blur_fn _ _) rfl rfl rfl) (And.intro rfl (And.intro trivial ?_))))
    refine hK8 _ _ ?_
    clear hK8
    refine AWPD.seq fun K9 hK9 => ?_
    -- region 10
    refine AWPD.keep [0, 1, 2, 7, 8, 9, 10, 11, 12, 13, 14] rfl ?_
    refine AWPD.region tabOK rfl ?_
    refine Exists.intro _ (Exists.intro _ (And.intro (StepD.callG errG_stays rfl hG0 (error_fn _ _) rfl rfl rfl) (And.intro rfl (And.intro trivial ?_))))
    repeat refine And.intro (by first | exact fun h => h | exact fun _ => rfl | (intro h; rw [h]; rfl) | omega | (intros; (try dsimp only [Ty.T, Ty.size]); (try simp only [castL_self, Int.toNat_natCast, Int.toNat_zero, Int.toNat_one, true_and, List.length_append, List.length_set, List.length_drop, List.length_take, List.length_replicate, List.length_cons, List.length_nil, Nat.zero_add, Nat.mul_one]); omega) | decide | (intros; simp_all; done) | (intros; simp_all; omega)) ?_
    refine Exists.intro _ (Exists.intro _ (And.intro (fun hg => StepD.call (rows_fn (blA t l) hA.1 hA.2) rfl rfl rfl) (And.intro (fun hf => rfl) (And.intro rfl (And.intro trivial ?_)))))
    repeat refine And.intro (by first | exact fun h => h | exact fun _ => rfl | (intro h; rw [h]; rfl) | omega | (intros; (try dsimp only [Ty.T, Ty.size]); (try simp only [castL_self, Int.toNat_natCast, Int.toNat_zero, Int.toNat_one, true_and, List.length_append, List.length_set, List.length_drop, List.length_take, List.length_replicate, List.length_cons, List.length_nil, Nat.zero_add, Nat.mul_one]); omega) | decide | (intros; simp_all; done) | (intros; simp_all; omega)) ?_
    refine hK9 _ _ ?_
    clear hK9
    refine AWPD.seq fun K10 hK10 => ?_
    -- region 11
    refine AWPD.keep [0, 1, 2, 7, 8, 9, 11, 12, 15] rfl ?_
    refine AWPD.region tabOK rfl ?_
    refine Exists.intro _ (Exists.intro _ (And.intro (StepD.call (Fewest_fn _ _) rfl rfl rfl) (And.intro rfl (And.intro trivial ?_))))
    refine hK10 _ _ ?_
    clear hK10
    refine AWPD.seq fun K11 hK11 => ?_
    -- region 12
    refine AWPD.keep [0, 2, 7, 8, 9, 11, 12, 14, 15, 16] rfl ?_
    refine AWPD.region tabOK rfl ?_
    refine Exists.intro _ (Exists.intro _ (And.intro (StepD.callG errG_stays rfl hG0 (error_fn _ _) rfl rfl rfl) (And.intro rfl (And.intro trivial ?_))))
    repeat refine And.intro (by first | exact fun h => h | exact fun _ => rfl | (intro h; rw [h]; rfl) | omega | (intros; (try dsimp only [Ty.T, Ty.size]); (try simp only [castL_self, Int.toNat_natCast, Int.toNat_zero, Int.toNat_one, true_and, List.length_append, List.length_set, List.length_drop, List.length_take, List.length_replicate, List.length_cons, List.length_nil, Nat.zero_add, Nat.mul_one]); omega) | decide | (intros; simp_all; done) | (intros; simp_all; omega)) ?_
    refine hK11 _ _ ?_
    clear hK11
    refine AWPD.seq fun K12 hK12 => ?_
    have tail12 : ∀ (fr : DF) (e7 : Int) (b15 b17 : Bool), keepF fr [0, 2, 7, 8, 11, 15, 17] [] = some [(17, .b b17), (15, .b b15), (11, .nil), (8, .b true), (7, .i e7), (2, .i m), (0, .sl (.sl .int) t)] → (e7 = lowE t m ∧ b15 = true ∧ b17 = true) → K12 fr [] := by
      intro fr e7 b15 b17 hkf hs
      refine hK12 fr [] (AWPD.keep [0, 2, 7, 8, 11, 15, 17] hkf ?_)
      clear hkf hK12
      obtain ⟨rfl, rfl, rfl⟩ := hs
      refine AWPD.seq fun K13 hK13 => ?_
      refine AWPD.seq fun K14 hK14 => ?_
      -- region 15
      refine AWPD.keep [0, 2, 7, 8, 11, 15, 17] rfl ?_
      refine AWPD.region tabOK rfl ?_
      refine hK14 _ _ ?_
      clear hK14
      first | refine AWPD.condP rfl (fun h2 => ?_) (fun h2 => ?_) | refine AWPD.condN rfl (fun h2 => ?_) (fun h2 => ?_) | refine AWPD.condAP rfl (fun h2 => ?_) (fun h2 => ?_) | refine AWPD.condOP rfl (fun h2 => ?_) (fun h2 => ?_) | refine AWPD.condONN rfl (fun h2 => ?_) (fun h2 => ?_) | refine AWPD.condOPN rfl (fun h2 => ?_) (fun h2 => ?_) | refine AWPD.condA rfl (fun h2 => ?_) (fun h2 => ?_) | refine AWPD.condO rfl (fun h2 => ?_) (fun h2 => ?_) | refine AWPD.cond rfl (fun h2 => ?_) (fun h2 => ?_)
      · try dsimp only [Ty.T] at h2
        try simp only [castL_self] at h2
        try simp only [Int.toNat_natCast] at h2
        try simp only [Int.toNat_zero] at h2
        have h2 : lowE t m = 0 := h2
        have hz := lowE_zero h2
        have hlr := low_ok m hz
        have hlv : lowV t m = lowL t m (t.getD 0 []).length (4 ^ (t.getD 0 []).length) := by unfold lowV; rw [if_pos h2]
        -- region 16
        refine AWPD.keep [0, 2, 7, 8, 15, 17] rfl ?_
        refine AWPD.region tabOK rfl ?_
        refine Exists.intro _ (Exists.intro _ (And.intro (StepD.call (rlow_fn t m hz) rfl rfl rfl) (And.intro rfl (And.intro trivial ?_))))
        refine hK13 _ _ ?_
        clear hK13
        refine AWPD.seq fun K15 hK15 => ?_
        -- region 17
        refine AWPD.keep [0, 2, 7, 8, 11, 15, 17] rfl ?_
        refine AWPD.region tabOK rfl ?_
        refine Exists.intro _ (Exists.intro _ (And.intro (StepD.call (Lowest_fn _ _) rfl rfl rfl) (And.intro rfl (And.intro trivial ?_))))
        refine hK15 _ _ ?_
        clear hK15
        refine AWPD.seq fun K16 hK16 => ?_
        -- region 18
        rw [hlv]
        refine AWPD.keep [7, 8, 11, 13, 14, 15, 17] rfl ?_
        refine AWPD.region tabOK rfl ?_
        repeat refine And.intro (by first | exact fun h => h | exact fun _ => rfl | (intro h; rw [h]; rfl) | omega | (intros; (try dsimp only [Ty.T, Ty.size]); (try simp only [castL_self, Int.toNat_natCast, Int.toNat_zero, Int.toNat_one, true_and, List.length_append, List.length_set, List.length_drop, List.length_take, List.length_replicate, List.length_cons, List.length_nil, Nat.zero_add, Nat.mul_one]); omega) | decide | (intros; simp_all; done) | (intros; simp_all; omega)) ?_
        refine Exists.intro _ (Exists.intro _ (And.intro (fun hg => StepD.callG errG_stays rfl hG0 (error_fn _ _) rfl rfl rfl) (And.intro (fun hf => rfl) (And.intro rfl (And.intro trivial ?_)))))
        repeat refine And.intro (by first | exact fun h => h | exact fun _ => rfl | (intro h; rw [h]; rfl) | omega | (intros; (try dsimp only [Ty.T, Ty.size]); (try simp only [castL_self, Int.toNat_natCast, Int.toNat_zero, Int.toNat_one, true_and, List.length_append, List.length_set, List.length_drop, List.length_take, List.length_replicate, List.length_cons, List.length_nil, Nat.zero_add, Nat.mul_one]); omega) | decide | (intros; simp_all; done) | (intros; simp_all; omega)) ?_
        refine Exists.intro _ (Exists.intro _ (And.intro (fun hg => StepD.call (rows_fn _ hlr.1 hlr.2) rfl rfl rfl) (And.intro (fun hf => rfl) (And.intro rfl (And.intro trivial ?_)))))
        repeat refine And.intro (by first | exact fun h => h | exact fun _ => rfl | (intro h; rw [h]; rfl) | omega | (intros; (try dsimp only [Ty.T, Ty.size]); (try simp only [castL_self, Int.toNat_natCast, Int.toNat_zero, Int.toNat_one, true_and, List.length_append, List.length_set, List.length_drop, List.length_take, List.length_replicate, List.length_cons, List.length_nil, Nat.zero_add, Nat.mul_one]); omega) | decide | (intros; simp_all; done) | (intros; simp_all; omega)) ?_
        refine hK16 _ _ ?_
        clear hK16
        refine AWPD.ret (And.intro (.inl rfl) ?_)
        -- result 0
        refine RetD.one ?_
        refine fitB rfl ?_
        simp
      · try dsimp only [Ty.T] at h2
        try simp only [castL_self] at h2
        try simp only [Int.toNat_natCast] at h2
        try simp only [Int.toNat_zero] at h2
        have h2 : ¬lowE t m = 0 := h2
        have hlv : lowV t m = [] := by unfold lowV; rw [if_neg h2]
        have hlr : ([] : List (List Int)).length ≤ 1000000 ∧ ∀ i, i < ([] : List (List Int)).length → (([] : List (List Int)).getD i []).length ≤ 1000000 := ⟨by simp, fun i hi => by simp at hi⟩
        refine AWPD.nilSl 11 (.sl .int) rfl (by decide) ?_
        refine AWPD.skip ?_
        refine hK13 _ _ ?_
        clear hK13
        refine AWPD.seq fun K17 hK17 => ?_
        -- region 17
        refine AWPD.keep [0, 2, 7, 8, 11, 15, 17] rfl ?_
        refine AWPD.region tabOK rfl ?_
        refine Exists.intro _ (Exists.intro _ (And.intro (StepD.call (Lowest_fn _ _) rfl rfl rfl) (And.intro rfl (And.intro trivial ?_))))
        refine hK17 _ _ ?_
        clear hK17
        refine AWPD.seq fun K18 hK18 => ?_
        -- region 18
        rw [hlv]
        refine AWPD.keep [7, 8, 11, 13, 14, 15, 17] rfl ?_
        refine AWPD.region tabOK rfl ?_
        repeat refine And.intro (by first | exact fun h => h | exact fun _ => rfl | (intro h; rw [h]; rfl) | omega | (intros; (try dsimp only [Ty.T, Ty.size]); (try simp only [castL_self, Int.toNat_natCast, Int.toNat_zero, Int.toNat_one, true_and, List.length_append, List.length_set, List.length_drop, List.length_take, List.length_replicate, List.length_cons, List.length_nil, Nat.zero_add, Nat.mul_one]); omega) | decide | (intros; simp_all; done) | (intros; simp_all; omega)) ?_
        refine Exists.intro _ (Exists.intro _ (And.intro (fun hg => StepD.callG errG_stays rfl hG0 (error_fn _ _) rfl rfl rfl) (And.intro (fun hf => rfl) (And.intro rfl (And.intro trivial ?_)))))
        repeat refine And.intro (by first | exact fun h => h | exact fun _ => rfl | (intro h; rw [h]; rfl) | omega | (intros; (try dsimp only [Ty.T, Ty.size]); (try simp only [castL_self, Int.toNat_natCast, Int.toNat_zero, Int.toNat_one, true_and, List.length_append, List.length_set, List.length_drop, List.length_take, List.length_replicate, List.length_cons, List.length_nil, Nat.zero_add, Nat.mul_one]); omega) | decide | (intros; simp_all; done) | (intros; simp_all; omega)) ?_
        refine Exists.intro _ (Exists.intro _ (And.intro (fun hg => StepD.call (rows_fn _ hlr.1 hlr.2) rfl rfl rfl) (And.intro (fun hf => rfl) (And.intro rfl (And.intro trivial ?_)))))
        repeat refine And.intro (by first | exact fun h => h | exact fun _ => rfl | (intro h; rw [h]; rfl) | omega | (intros; (try dsimp only [Ty.T, Ty.size]); (try simp only [castL_self, Int.toNat_natCast, Int.toNat_zero, Int.toNat_one, true_and, List.length_append, List.length_set, List.length_drop, List.length_take, List.length_replicate, List.length_cons, List.length_nil, Nat.zero_add, Nat.mul_one]); omega) | decide | (intros; simp_all; done) | (intros; simp_all; omega)) ?_
        refine hK18 _ _ ?_
        clear hK18
        refine AWPD.ret (And.intro (.inl rfl) ?_)
        -- result 1
        refine RetD.one ?_
        refine fitB rfl ?_
        simp
    clear hK12
    refine AWPD.seq fun K19 hK19 => ?_
    -- region 13
    refine AWPD.keep [0, 2, 7, 8, 11, 15, 17] rfl ?_
    refine AWPD.region tabOK rfl ?_
    repeat refine And.intro (by first | exact fun h => h | exact fun _ => rfl | (intro h; rw [h]; rfl) | omega | (intros; (try dsimp only [Ty.T, Ty.size]); (try simp only [castL_self, Int.toNat_natCast, Int.toNat_zero, Int.toNat_one, true_and, List.length_append, List.length_set, List.length_drop, List.length_take, List.length_replicate, List.length_cons, List.length_nil, Nat.zero_add, Nat.mul_one]); omega) | decide | (intros; simp_all; done) | (intros; simp_all; omega)) ?_
    refine hK19 _ _ ?_
    clear hK19
    first | refine AWPD.cond rfl (fun h1 => ?_) (fun h1 => ?_)
    · try dsimp only [Ty.T] at h1
      try simp only [castL_self] at h1
      try simp only [Int.toNat_natCast] at h1
      try simp only [Int.toNat_zero] at h1
      have h1 := lowE_t h1
      -- region 14
      refine AWPD.keep [0, 2, 8, 11, 15, 17] rfl ?_
      refine AWPD.region tabOK rfl ?_
      exact tail12 _ _ _ _ rfl (⟨h1, by simp, by simp [fewA]⟩)
    · try dsimp only [Ty.T] at h1
      try simp only [castL_self] at h1
      try simp only [Int.toNat_natCast] at h1
      try simp only [Int.toNat_zero] at h1
      have h1 := lowE_f h1
      refine AWPD.skip ?_
      exact tail12 _ _ _ _ rfl (⟨h1, by simp, by simp [fewA]⟩)
  clear hK7
  refine AWPD.seq fun K20 hK20 => ?_
  -- region 6
  refine AWPD.keep [0, 1, 2, 7, 8, 9, 10, 11, 12] rfl ?_
  refine AWPD.region tabOK rfl ?_
  refine hK20 _ _ ?_
  clear hK20
  first | refine AWPD.condP rfl (fun h0 => ?_) (fun h0 => ?_) | refine AWPD.condN rfl (fun h0 => ?_) (fun h0 => ?_) | refine AWPD.condAP rfl (fun h0 => ?_) (fun h0 => ?_) | refine AWPD.condOP rfl (fun h0 => ?_) (fun h0 => ?_) | refine AWPD.condONN rfl (fun h0 => ?_) (fun h0 => ?_) | refine AWPD.condOPN rfl (fun h0 => ?_) (fun h0 => ?_) | refine AWPD.condA rfl (fun h0 => ?_) (fun h0 => ?_) | refine AWPD.condO rfl (fun h0 => ?_) (fun h0 => ?_) | refine AWPD.cond rfl (fun h0 => ?_) (fun h0 => ?_)
  · try dsimp only [Ty.T] at h0
    try simp only [castL_self] at h0
    try simp only [Int.toNat_natCast] at h0
    try simp only [Int.toNat_zero] at h0
    have h0 : heightsE t l = 0 := h0
    have g := heights_good h0
    refine AWPD.seq fun K21 hK21 => ?_
    -- region 7
    refine AWPD.keep [0, 1, 2, 7, 8, 9, 11] rfl ?_
    refine AWPD.region tabOK rfl ?_
    refine Exists.intro _ (Exists.intro _ (And.intro (StepD.call (rblur_fn t l g) rfl rfl rfl) (And.intro rfl (And.intro trivial ?_))))
    refine hK21 _ _ ?_
    clear hK21
    -- region 8
    refine AWPD.keep [0, 1, 2, 7, 8, 9, 10, 11] rfl ?_
    refine AWPD.region tabOK rfl ?_
    refine Exists.intro _ (Exists.intro _ (And.intro (StepD.call (rfew_fn t l g) rfl rfl rfl) (And.intro rfl (And.intro trivial ?_))))
    exact tail7 _ _ _ _ rfl (⟨by simp, by unfold blA; rw [if_pos h0], by unfold fewA; rw [if_pos h0]⟩)
  · try dsimp only [Ty.T] at h0
    try simp only [castL_self] at h0
    try simp only [Int.toNat_natCast] at h0
    try simp only [Int.toNat_zero] at h0
    have h0 : ¬heightsE t l = 0 := h0
    refine AWPD.nilSl 10 (.sl .int) rfl (by decide) ?_
    refine AWPD.skip ?_
    exact tail7 _ _ _ _ rfl (⟨by simp, by unfold blA; rw [if_neg h0], by unfold fewA; rw [if_neg h0]⟩)
end Go.Proofs.YtmeacgkhabnjlaaDoor
