/-
  WALK of the law PartSays.
-/
import Derived.Test.YtkdihpajgmiolaaDoorQwPt
namespace Go.Proofs.YtkdihpajgmiolaaDoor
open Go Go.Qw
set_option maxRecDepth 10000
set_option linter.unusedSimpArgs false
set_option linter.unusedVariables false
set_option linter.unusedSectionVars false
set_option maxHeartbeats 2000000

theorem partSays_fn (p q l : List Int) : LiftsG Tryd.prog errG 7 [.sl .int p, .sl .int q, .sl .int l] (.b true) := by
  refine LiftsG.of_body 133 [.tmp 6] Tryd.func7 rfl Tryd.ntmps7 (by kernel_rfl) rfl rfl fun w0 X0 hG0 => ?_
  refine AWPD.seq fun K1 hK1 => ?_
  -- region 0
  refine AWPD.keep [0, 1, 2] rfl ?_
  refine AWPD.region tabOK rfl ?_
  refine hK1 _ _ ?_
  clear hK1
  refine AWPD.seq fun K2 hK2 => ?_
  -- region 1
  refine AWPD.keep [0, 1, 2] rfl ?_
  refine AWPD.region tabOK rfl ?_
  refine Exists.intro _ (Exists.intro _ (And.intro (StepD.call (rpart_fn _) rfl rfl rfl) (And.intro rfl (And.intro trivial ?_))))
  refine hK2 _ _ ?_
  clear hK2
  refine AWPD.seq fun K3 hK3 => ?_
  -- region 2
  refine AWPD.keep [0, 1, 2, 7] rfl ?_
  refine AWPD.region tabOK rfl ?_
  refine Exists.intro _ (Exists.intro _ (And.intro (StepD.call (part_fn _) rfl rfl rfl) (And.intro rfl (And.intro trivial ?_))))
  refine Exists.intro _ (Exists.intro _ (And.intro (StepD.callG errG_stays rfl hG0 (error_fn _ _) rfl rfl rfl) (And.intro rfl (And.intro trivial ?_))))
  refine hK3 _ _ ?_
  clear hK3
  refine AWPD.seq fun K4 hK4 => ?_
  -- region 3
  refine AWPD.keep [0, 1, 2, 7, 8] rfl ?_
  refine AWPD.region tabOK rfl ?_
  refine hK4 _ _ ?_
  clear hK4
  refine AWPD.seq fun K5 hK5 => ?_
  refine AWPD.seq fun K6 hK6 => ?_
  -- region 4
  refine AWPD.keep [0, 1, 2, 7, 8, 9, 10] rfl ?_
  refine AWPD.region tabOK rfl ?_
  refine hK6 _ _ ?_
  clear hK6
  first | refine AWPD.condP rfl (fun h0 => ?_) (fun h0 => ?_) | refine AWPD.condN rfl (fun h0 => ?_) (fun h0 => ?_) | refine AWPD.condAP rfl (fun h0 => ?_) (fun h0 => ?_) | refine AWPD.condOP rfl (fun h0 => ?_) (fun h0 => ?_) | refine AWPD.condONN rfl (fun h0 => ?_) (fun h0 => ?_) | refine AWPD.condOPN rfl (fun h0 => ?_) (fun h0 => ?_) | refine AWPD.condA rfl (fun h0 => ?_) (fun h0 => ?_) | refine AWPD.condO rfl (fun h0 => ?_) (fun h0 => ?_) | refine AWPD.cond rfl (fun h0 => ?_) (fun h0 => ?_)
  · try dsimp only [Ty.T] at h0
    try simp only [castL_self] at h0
    try simp only [Int.toNat_natCast] at h0
    try simp only [Int.toNat_zero] at h0
    have hp : partE p = 0 := h0
    have hcl := clsL_len hp
    -- region 5
    refine AWPD.keep [0, 1, 2, 7, 8, 10] rfl ?_
    refine AWPD.region tabOK rfl ?_
    refine Exists.intro _ (Exists.intro _ (And.intro (StepD.call (rclasses_fn _ (by assumption)) rfl rfl rfl) (And.intro rfl (And.intro trivial ?_))))
    refine hK5 _ _ ?_
    clear hK5
    refine AWPD.seq fun K7 hK7 => ?_
    -- region 6
    refine AWPD.keep [0, 1, 2, 7, 8, 9, 10] rfl ?_
    refine AWPD.region tabOK rfl ?_
    refine Exists.intro _ (Exists.intro _ (And.intro (StepD.call (classes_fn _) rfl rfl rfl) (And.intro rfl (And.intro trivial ?_))))
    refine hK7 _ _ ?_
    clear hK7
    refine AWPD.seq fun K8 hK8 => ?_
    -- region 7
    try rw [hc0]
    refine AWPD.keep [0, 1, 2, 7, 8, 9, 10, 11, 12] rfl ?_
    refine AWPD.region tabOK rfl ?_
    refine Exists.intro _ (Exists.intro _ (And.intro (StepD.callG errG_stays rfl hG0 (error_fn _ _) rfl rfl rfl) (And.intro rfl (And.intro trivial ?_))))
    repeat refine And.intro (by first | exact fun h => h | exact fun _ => rfl | (intro h; rw [h]; rfl) | omega | (intros; (try dsimp only [Ty.T, Ty.size]); (try simp only [castL_self, Int.toNat_natCast, Int.toNat_zero, Int.toNat_one, true_and, List.length_append, List.length_set, List.length_drop, List.length_take, List.length_replicate, List.length_cons, List.length_nil, Nat.zero_add, Nat.mul_one]); omega) | decide | (intros; simp_all; done) | (intros; simp_all; omega)) ?_
    refine Exists.intro _ (Exists.intro _ (And.intro (fun hg => StepD.call (by first | exact ints_fn _ _ (by omega) | exact LiftsD.fit (ints_fn [] [] (by decide)) ⟨⟨rfl, rfl⟩, ⟨rfl, by decide⟩, trivial⟩) rfl rfl rfl) (And.intro (fun hf => rfl) (And.intro rfl (And.intro trivial ?_)))))
    repeat refine And.intro (by first | exact fun h => h | exact fun _ => rfl | (intro h; rw [h]; rfl) | omega | (intros; (try dsimp only [Ty.T, Ty.size]); (try simp only [castL_self, Int.toNat_natCast, Int.toNat_zero, Int.toNat_one, true_and, List.length_append, List.length_set, List.length_drop, List.length_take, List.length_replicate, List.length_cons, List.length_nil, Nat.zero_add, Nat.mul_one]); omega) | decide | (intros; simp_all; done) | (intros; simp_all; omega)) ?_
    refine hK8 _ _ ?_
    clear hK8
    refine AWPD.seq fun K9 hK9 => ?_
    -- region 8
    refine AWPD.keep [0, 1, 2, 8, 10, 13] rfl ?_
    refine AWPD.region tabOK rfl ?_
    refine hK9 _ _ ?_
    clear hK9
    refine AWPD.seq fun K10 hK10 => ?_
    refine AWPD.seq fun K11 hK11 => ?_
    -- region 9
    refine AWPD.keep [0, 1, 2, 7, 8, 10, 13] rfl ?_
    refine AWPD.region tabOK rfl ?_
    refine hK11 _ _ ?_
    clear hK11
    first | refine AWPD.condP rfl (fun h1 => ?_) (fun h1 => ?_) | refine AWPD.condN rfl (fun h1 => ?_) (fun h1 => ?_) | refine AWPD.condAP rfl (fun h1 => ?_) (fun h1 => ?_) | refine AWPD.condOP rfl (fun h1 => ?_) (fun h1 => ?_) | refine AWPD.condONN rfl (fun h1 => ?_) (fun h1 => ?_) | refine AWPD.condOPN rfl (fun h1 => ?_) (fun h1 => ?_) | refine AWPD.condA rfl (fun h1 => ?_) (fun h1 => ?_) | refine AWPD.condO rfl (fun h1 => ?_) (fun h1 => ?_) | refine AWPD.cond rfl (fun h1 => ?_) (fun h1 => ?_)
    · try dsimp only [Ty.T] at h1
      try simp only [castL_self] at h1
      try simp only [Int.toNat_natCast] at h1
      try simp only [Int.toNat_zero] at h1
      have ho0 : ofL l = [] := by unfold ofL; rw [if_pos (by omega)]
      have hoe : ofE l = 4 := by unfold ofE; rw [if_pos (by omega)]
      -- region 10
      refine AWPD.keep [0, 1, 2, 8, 10, 13] rfl ?_
      refine AWPD.region tabOK rfl ?_
      refine hK10 _ _ ?_
      clear hK10
      refine AWPD.seq fun K12 hK12 => ?_
      -- region 12
      refine AWPD.keep [0, 1, 2, 7, 8, 10, 13] rfl ?_
      refine AWPD.region tabOK rfl ?_
      refine Exists.intro _ (Exists.intro _ (And.intro (StepD.call (of_fn _) rfl rfl rfl) (And.intro rfl (And.intro trivial ?_))))
      refine hK12 _ _ ?_
      clear hK12
      refine AWPD.seq fun K13 hK13 => ?_
      -- region 13
      try rw [ho0]
      refine AWPD.keep [0, 1, 7, 8, 10, 11, 12, 13] rfl ?_
      refine AWPD.region tabOK rfl ?_
      refine Exists.intro _ (Exists.intro _ (And.intro (StepD.callG errG_stays rfl hG0 (error_fn _ _) rfl rfl rfl) (And.intro rfl (And.intro trivial ?_))))
      repeat refine And.intro (by first | exact fun h => h | exact fun _ => rfl | (intro h; rw [h]; rfl) | omega | (intros; (try dsimp only [Ty.T, Ty.size]); (try simp only [castL_self, Int.toNat_natCast, Int.toNat_zero, Int.toNat_one, true_and, List.length_append, List.length_set, List.length_drop, List.length_take, List.length_replicate, List.length_cons, List.length_nil, Nat.zero_add, Nat.mul_one]); omega) | decide | (intros; simp_all; done) | (intros; simp_all; omega)) ?_
      refine Exists.intro _ (Exists.intro _ (And.intro (fun hg => StepD.call (by first | exact ints_fn _ _ (by omega) | exact LiftsD.fit (ints_fn [] [] (by decide)) ⟨⟨rfl, rfl⟩, ⟨rfl, by decide⟩, trivial⟩) rfl rfl rfl) (And.intro (fun hf => rfl) (And.intro rfl (And.intro trivial ?_)))))
      repeat refine And.intro (by first | exact fun h => h | exact fun _ => rfl | (intro h; rw [h]; rfl) | omega | (intros; (try dsimp only [Ty.T, Ty.size]); (try simp only [castL_self, Int.toNat_natCast, Int.toNat_zero, Int.toNat_one, true_and, List.length_append, List.length_set, List.length_drop, List.length_take, List.length_replicate, List.length_cons, List.length_nil, Nat.zero_add, Nat.mul_one]); omega) | decide | (intros; simp_all; done) | (intros; simp_all; omega)) ?_
      refine hK13 _ _ ?_
      clear hK13
      refine AWPD.seq fun K14 hK14 => ?_
      -- region 14
      refine AWPD.keep [0, 1, 8, 13, 14] rfl ?_
      refine AWPD.region tabOK rfl ?_
      refine Exists.intro _ (Exists.intro _ (And.intro (StepD.call (rtwo_fn _ _) rfl rfl rfl) (And.intro rfl (And.intro trivial ?_))))
      refine hK14 _ _ ?_
      clear hK14
      refine AWPD.seq fun K15 hK15 => ?_
      -- region 15
      refine AWPD.keep [0, 1, 7, 8, 13, 14] rfl ?_
      refine AWPD.region tabOK rfl ?_
      refine hK15 _ _ ?_
      clear hK15
      refine AWPD.seq fun K16 hK16 => ?_
      -- region 16
      refine AWPD.keep [0, 1, 7, 8, 13, 14, 15, 16] rfl ?_
      refine AWPD.region tabOK rfl ?_
      refine hK16 _ _ ?_
      clear hK16
      refine AWPD.seq fun K17 hK17 => ?_
      refine AWPD.seq fun K18 hK18 => ?_
      -- region 17
      refine AWPD.keep [0, 1, 7, 8, 13, 14, 15, 16, 17] rfl ?_
      refine AWPD.region tabOK rfl ?_
      refine hK18 _ _ ?_
      clear hK18
      first | refine AWPD.condP rfl (fun h2 => ?_) (fun h2 => ?_) | refine AWPD.condN rfl (fun h2 => ?_) (fun h2 => ?_) | refine AWPD.condAP rfl (fun h2 => ?_) (fun h2 => ?_) | refine AWPD.condOP rfl (fun h2 => ?_) (fun h2 => ?_) | refine AWPD.condONN rfl (fun h2 => ?_) (fun h2 => ?_) | refine AWPD.condOPN rfl (fun h2 => ?_) (fun h2 => ?_) | refine AWPD.condA rfl (fun h2 => ?_) (fun h2 => ?_) | refine AWPD.condO rfl (fun h2 => ?_) (fun h2 => ?_) | refine AWPD.cond rfl (fun h2 => ?_) (fun h2 => ?_)
      · try dsimp only [Ty.T] at h2
        try simp only [castL_self] at h2
        try simp only [Int.toNat_natCast] at h2
        try simp only [Int.toNat_zero] at h2
        try (exact absurd (twoE_ok h2).1 hnp; done)
        all_goals
          have he2 : twoE p q = 0 := h2
          obtain ⟨hp2, hq2, hpq2, hl2⟩ := twoE_ok he2
          obtain ⟨hm12, hj12⟩ := two_len he2
          have hmi := meet_is he2
          have hji := join_is he2
          refine AWPD.seq fun K19 hK19 => ?_
          -- region 18
          refine AWPD.keep [0, 1, 7, 8, 13, 14] rfl ?_
          refine AWPD.region tabOK rfl ?_
          refine Exists.intro _ (Exists.intro _ (And.intro (StepD.call (rmeet_fn _ _ _ (by omega) (by omega)) rfl rfl rfl) (And.intro rfl (And.intro trivial ?_))))
          refine hK19 _ _ ?_
          clear hK19
          refine AWPD.seq fun K20 hK20 => ?_
          -- region 19
          refine AWPD.keep [0, 1, 7, 8, 13, 14, 15] rfl ?_
          refine AWPD.region tabOK rfl ?_
          refine Exists.intro _ (Exists.intro _ (And.intro (StepD.call (rmeet_fn _ _ _ (by omega) (by omega)) rfl rfl rfl) (And.intro rfl (And.intro trivial ?_))))
          refine hK20 _ _ ?_
          clear hK20
          -- region 20
          refine AWPD.keep [0, 1, 7, 8, 13, 14, 15, 16] rfl ?_
          refine AWPD.region tabOK rfl ?_
          refine Exists.intro _ (Exists.intro _ (And.intro (StepD.call (rfiner_fn _ _ (by assumption)) rfl rfl rfl) (And.intro rfl (And.intro trivial ?_))))
          refine hK17 _ _ ?_
          clear hK17
          refine AWPD.seq fun K21 hK21 => ?_
          -- region 21
          try rw [hmi]
          try rw [hji]
          refine AWPD.keep [0, 1, 7, 8, 13, 14, 15, 16, 17] rfl ?_
          refine AWPD.region tabOK rfl ?_
          refine Exists.intro _ (Exists.intro _ (And.intro (StepD.call (meet_fn _ _) rfl rfl rfl) (And.intro rfl (And.intro trivial ?_))))
          refine hK21 _ _ ?_
          clear hK21
          refine AWPD.seq fun K22 hK22 => ?_
          -- region 22
          try rw [hmi]
          try rw [hji]
          try rw [hm0]
          refine AWPD.keep [0, 1, 7, 8, 11, 12, 13, 14, 15, 16, 17] rfl ?_
          refine AWPD.region tabOK rfl ?_
          refine Exists.intro _ (Exists.intro _ (And.intro (StepD.callG errG_stays rfl hG0 (error_fn _ _) rfl rfl rfl) (And.intro rfl (And.intro trivial ?_))))
          repeat refine And.intro (by first | exact fun h => h | exact fun _ => rfl | (intro h; rw [h]; rfl) | omega | (intros; (try dsimp only [Ty.T, Ty.size]); (try simp only [castL_self, Int.toNat_natCast, Int.toNat_zero, Int.toNat_one, true_and, List.length_append, List.length_set, List.length_drop, List.length_take, List.length_replicate, List.length_cons, List.length_nil, Nat.zero_add, Nat.mul_one]); omega) | decide | (intros; simp_all; done) | (intros; simp_all; omega)) ?_
          refine Exists.intro _ (Exists.intro _ (And.intro (fun hg => StepD.call (by first | exact ints_fn _ _ (by omega) | exact LiftsD.fit (ints_fn [] [] (by decide)) ⟨⟨rfl, rfl⟩, ⟨rfl, by decide⟩, trivial⟩) rfl rfl rfl) (And.intro (fun hf => rfl) (And.intro rfl (And.intro trivial ?_)))))
          repeat refine And.intro (by first | exact fun h => h | exact fun _ => rfl | (intro h; rw [h]; rfl) | omega | (intros; (try dsimp only [Ty.T, Ty.size]); (try simp only [castL_self, Int.toNat_natCast, Int.toNat_zero, Int.toNat_one, true_and, List.length_append, List.length_set, List.length_drop, List.length_take, List.length_replicate, List.length_cons, List.length_nil, Nat.zero_add, Nat.mul_one]); omega) | decide | (intros; simp_all; done) | (intros; simp_all; omega)) ?_
          refine hK22 _ _ ?_
          clear hK22
          refine AWPD.seq fun K23 hK23 => ?_
          -- region 23
          refine AWPD.keep [0, 1, 7, 8, 13, 14, 16, 17, 18] rfl ?_
          refine AWPD.region tabOK rfl ?_
          refine Exists.intro _ (Exists.intro _ (And.intro (StepD.call (join_fn _ _) rfl rfl rfl) (And.intro rfl (And.intro trivial ?_))))
          refine hK23 _ _ ?_
          clear hK23
          refine AWPD.seq fun K24 hK24 => ?_
          -- region 24
          try rw [hj0]
          refine AWPD.keep [0, 1, 7, 8, 11, 12, 13, 14, 16, 17, 18] rfl ?_
          refine AWPD.region tabOK rfl ?_
          refine Exists.intro _ (Exists.intro _ (And.intro (StepD.callG errG_stays rfl hG0 (error_fn _ _) rfl rfl rfl) (And.intro rfl (And.intro trivial ?_))))
          repeat refine And.intro (by first | exact fun h => h | exact fun _ => rfl | (intro h; rw [h]; rfl) | omega | (intros; (try dsimp only [Ty.T, Ty.size]); (try simp only [castL_self, Int.toNat_natCast, Int.toNat_zero, Int.toNat_one, true_and, List.length_append, List.length_set, List.length_drop, List.length_take, List.length_replicate, List.length_cons, List.length_nil, Nat.zero_add, Nat.mul_one]); omega) | decide | (intros; simp_all; done) | (intros; simp_all; omega)) ?_
          refine Exists.intro _ (Exists.intro _ (And.intro (fun hg => StepD.call (by first | exact ints_fn _ _ (by omega) | exact LiftsD.fit (ints_fn [] [] (by decide)) ⟨⟨rfl, rfl⟩, ⟨rfl, by decide⟩, trivial⟩) rfl rfl rfl) (And.intro (fun hf => rfl) (And.intro rfl (And.intro trivial ?_)))))
          repeat refine And.intro (by first | exact fun h => h | exact fun _ => rfl | (intro h; rw [h]; rfl) | omega | (intros; (try dsimp only [Ty.T, Ty.size]); (try simp only [castL_self, Int.toNat_natCast, Int.toNat_zero, Int.toNat_one, true_and, List.length_append, List.length_set, List.length_drop, List.length_take, List.length_replicate, List.length_cons, List.length_nil, Nat.zero_add, Nat.mul_one]); omega) | decide | (intros; simp_all; done) | (intros; simp_all; omega)) ?_
          refine hK24 _ _ ?_
          clear hK24
          refine AWPD.seq fun K25 hK25 => ?_
          -- region 25
          refine AWPD.keep [0, 1, 7, 8, 13, 14, 17, 18, 19] rfl ?_
          refine AWPD.region tabOK rfl ?_
          refine Exists.intro _ (Exists.intro _ (And.intro (StepD.call (finer_fn _ _) rfl rfl rfl) (And.intro rfl (And.intro trivial ?_))))
          refine hK25 _ _ ?_
          clear hK25
          refine AWPD.seq fun K26 hK26 => ?_
          -- region 26
          refine AWPD.keep [7, 8, 12, 13, 14, 17, 18, 19, 20] rfl ?_
          refine AWPD.region tabOK rfl ?_
          repeat refine And.intro (by first | exact fun h => h | exact fun _ => rfl | (intro h; rw [h]; rfl) | omega | (intros; (try dsimp only [Ty.T, Ty.size]); (try simp only [castL_self, Int.toNat_natCast, Int.toNat_zero, Int.toNat_one, true_and, List.length_append, List.length_set, List.length_drop, List.length_take, List.length_replicate, List.length_cons, List.length_nil, Nat.zero_add, Nat.mul_one]); omega) | decide | (intros; simp_all; done) | (intros; simp_all; omega)) ?_
          refine Exists.intro _ (Exists.intro _ (And.intro (fun hg => StepD.callG errG_stays rfl hG0 (error_fn _ _) rfl rfl rfl) (And.intro (fun hf => rfl) (And.intro rfl (And.intro trivial ?_)))))
          repeat refine And.intro (by first | exact fun h => h | exact fun _ => rfl | (intro h; rw [h]; rfl) | omega | (intros; (try dsimp only [Ty.T, Ty.size]); (try simp only [castL_self, Int.toNat_natCast, Int.toNat_zero, Int.toNat_one, true_and, List.length_append, List.length_set, List.length_drop, List.length_take, List.length_replicate, List.length_cons, List.length_nil, Nat.zero_add, Nat.mul_one]); omega) | decide | (intros; simp_all; done) | (intros; simp_all; omega)) ?_
          refine hK26 _ _ ?_
          clear hK26
          refine AWPD.ret (And.intro (.inl rfl) ?_)
          -- result 0
          refine RetD.one ?_
          refine fitB rfl ?_
          simp [*]
      · try dsimp only [Ty.T] at h2
        try simp only [castL_self] at h2
        try simp only [Int.toNat_natCast] at h2
        try simp only [Int.toNat_zero] at h2
        have hne2 : ¬twoE p q = 0 := h2
        have hm0 : meetL p q = [] := by unfold meetL; rw [if_neg hne2]
        have hj0 : joinL p q = [] := by unfold joinL; rw [if_neg hne2]
        have hf0 : finerV p q = false := by unfold finerV; rw [if_neg hne2]
        refine AWPD.skip ?_
        refine hK17 _ _ ?_
        clear hK17
        refine AWPD.seq fun K27 hK27 => ?_
        -- region 21
        try rw [hmi]
        try rw [hji]
        refine AWPD.keep [0, 1, 7, 8, 13, 14, 15, 16, 17] rfl ?_
        refine AWPD.region tabOK rfl ?_
        refine Exists.intro _ (Exists.intro _ (And.intro (StepD.call (meet_fn _ _) rfl rfl rfl) (And.intro rfl (And.intro trivial ?_))))
        refine hK27 _ _ ?_
        clear hK27
        refine AWPD.seq fun K28 hK28 => ?_
        -- region 22
        try rw [hmi]
        try rw [hji]
        try rw [hm0]
        refine AWPD.keep [0, 1, 7, 8, 11, 12, 13, 14, 15, 16, 17] rfl ?_
        refine AWPD.region tabOK rfl ?_
        refine Exists.intro _ (Exists.intro _ (And.intro (StepD.callG errG_stays rfl hG0 (error_fn _ _) rfl rfl rfl) (And.intro rfl (And.intro trivial ?_))))
        repeat refine And.intro (by first | exact fun h => h | exact fun _ => rfl | (intro h; rw [h]; rfl) | omega | (intros; (try dsimp only [Ty.T, Ty.size]); (try simp only [castL_self, Int.toNat_natCast, Int.toNat_zero, Int.toNat_one, true_and, List.length_append, List.length_set, List.length_drop, List.length_take, List.length_replicate, List.length_cons, List.length_nil, Nat.zero_add, Nat.mul_one]); omega) | decide | (intros; simp_all; done) | (intros; simp_all; omega)) ?_
        refine Exists.intro _ (Exists.intro _ (And.intro (fun hg => StepD.call (by first | exact ints_fn _ _ (by omega) | exact LiftsD.fit (ints_fn [] [] (by decide)) ⟨⟨rfl, rfl⟩, ⟨rfl, by decide⟩, trivial⟩) rfl rfl rfl) (And.intro (fun hf => rfl) (And.intro rfl (And.intro trivial ?_)))))
        repeat refine And.intro (by first | exact fun h => h | exact fun _ => rfl | (intro h; rw [h]; rfl) | omega | (intros; (try dsimp only [Ty.T, Ty.size]); (try simp only [castL_self, Int.toNat_natCast, Int.toNat_zero, Int.toNat_one, true_and, List.length_append, List.length_set, List.length_drop, List.length_take, List.length_replicate, List.length_cons, List.length_nil, Nat.zero_add, Nat.mul_one]); omega) | decide | (intros; simp_all; done) | (intros; simp_all; omega)) ?_
        refine hK28 _ _ ?_
        clear hK28
        refine AWPD.seq fun K29 hK29 => ?_
        -- region 23
        refine AWPD.keep [0, 1, 7, 8, 13, 14, 16, 17, 18] rfl ?_
        refine AWPD.region tabOK rfl ?_
        refine Exists.intro _ (Exists.intro _ (And.intro (StepD.call (join_fn _ _) rfl rfl rfl) (And.intro rfl (And.intro trivial ?_))))
        refine hK29 _ _ ?_
        clear hK29
        refine AWPD.seq fun K30 hK30 => ?_
        -- region 24
        try rw [hj0]
        refine AWPD.keep [0, 1, 7, 8, 11, 12, 13, 14, 16, 17, 18] rfl ?_
        refine AWPD.region tabOK rfl ?_
        refine Exists.intro _ (Exists.intro _ (And.intro (StepD.callG errG_stays rfl hG0 (error_fn _ _) rfl rfl rfl) (And.intro rfl (And.intro trivial ?_))))
        repeat refine And.intro (by first | exact fun h => h | exact fun _ => rfl | (intro h; rw [h]; rfl) | omega | (intros; (try dsimp only [Ty.T, Ty.size]); (try simp only [castL_self, Int.toNat_natCast, Int.toNat_zero, Int.toNat_one, true_and, List.length_append, List.length_set, List.length_drop, List.length_take, List.length_replicate, List.length_cons, List.length_nil, Nat.zero_add, Nat.mul_one]); omega) | decide | (intros; simp_all; done) | (intros; simp_all; omega)) ?_
        refine Exists.intro _ (Exists.intro _ (And.intro (fun hg => StepD.call (by first | exact ints_fn _ _ (by omega) | exact LiftsD.fit (ints_fn [] [] (by decide)) ⟨⟨rfl, rfl⟩, ⟨rfl, by decide⟩, trivial⟩) rfl rfl rfl) (And.intro (fun hf => rfl) (And.intro rfl (And.intro trivial ?_)))))
        repeat refine And.intro (by first | exact fun h => h | exact fun _ => rfl | (intro h; rw [h]; rfl) | omega | (intros; (try dsimp only [Ty.T, Ty.size]); (try simp only [castL_self, Int.toNat_natCast, Int.toNat_zero, Int.toNat_one, true_and, List.length_append, List.length_set, List.length_drop, List.length_take, List.length_replicate, List.length_cons, List.length_nil, Nat.zero_add, Nat.mul_one]); omega) | decide | (intros; simp_all; done) | (intros; simp_all; omega)) ?_
        refine hK30 _ _ ?_
        clear hK30
        refine AWPD.seq fun K31 hK31 => ?_
        -- region 25
        refine AWPD.keep [0, 1, 7, 8, 13, 14, 17, 18, 19] rfl ?_
        refine AWPD.region tabOK rfl ?_
        refine Exists.intro _ (Exists.intro _ (And.intro (StepD.call (finer_fn _ _) rfl rfl rfl) (And.intro rfl (And.intro trivial ?_))))
        refine hK31 _ _ ?_
        clear hK31
        refine AWPD.seq fun K32 hK32 => ?_
        -- region 26
        refine AWPD.keep [7, 8, 12, 13, 14, 17, 18, 19, 20] rfl ?_
        refine AWPD.region tabOK rfl ?_
        repeat refine And.intro (by first | exact fun h => h | exact fun _ => rfl | (intro h; rw [h]; rfl) | omega | (intros; (try dsimp only [Ty.T, Ty.size]); (try simp only [castL_self, Int.toNat_natCast, Int.toNat_zero, Int.toNat_one, true_and, List.length_append, List.length_set, List.length_drop, List.length_take, List.length_replicate, List.length_cons, List.length_nil, Nat.zero_add, Nat.mul_one]); omega) | decide | (intros; simp_all; done) | (intros; simp_all; omega)) ?_
        refine Exists.intro _ (Exists.intro _ (And.intro (fun hg => StepD.callG errG_stays rfl hG0 (error_fn _ _) rfl rfl rfl) (And.intro (fun hf => rfl) (And.intro rfl (And.intro trivial ?_)))))
        repeat refine And.intro (by first | exact fun h => h | exact fun _ => rfl | (intro h; rw [h]; rfl) | omega | (intros; (try dsimp only [Ty.T, Ty.size]); (try simp only [castL_self, Int.toNat_natCast, Int.toNat_zero, Int.toNat_one, true_and, List.length_append, List.length_set, List.length_drop, List.length_take, List.length_replicate, List.length_cons, List.length_nil, Nat.zero_add, Nat.mul_one]); omega) | decide | (intros; simp_all; done) | (intros; simp_all; omega)) ?_
        refine hK32 _ _ ?_
        clear hK32
        refine AWPD.ret (And.intro (.inl rfl) ?_)
        -- result 1
        refine RetD.one ?_
        refine fitB rfl ?_
        simp [*]
    · try dsimp only [Ty.T] at h1
      try simp only [castL_self] at h1
      try simp only [Int.toNat_natCast] at h1
      try simp only [Int.toNat_zero] at h1
      have hl12 : l.length ≤ 12 := by omega
      have hol := ofL_len hl12
      have hoe : ofE l = 0 := by unfold ofE; rw [if_neg (by omega)]
      -- region 11
      refine AWPD.keep [0, 1, 2, 7, 8, 13] rfl ?_
      refine AWPD.region tabOK rfl ?_
      refine Exists.intro _ (Exists.intro _ (And.intro (StepD.call (rof_fn _ (by omega)) rfl rfl rfl) (And.intro rfl (And.intro trivial ?_))))
      refine hK10 _ _ ?_
      clear hK10
      refine AWPD.seq fun K33 hK33 => ?_
      -- region 12
      refine AWPD.keep [0, 1, 2, 7, 8, 10, 13] rfl ?_
      refine AWPD.region tabOK rfl ?_
      refine Exists.intro _ (Exists.intro _ (And.intro (StepD.call (of_fn _) rfl rfl rfl) (And.intro rfl (And.intro trivial ?_))))
      refine hK33 _ _ ?_
      clear hK33
      refine AWPD.seq fun K34 hK34 => ?_
      -- region 13
      try rw [ho0]
      refine AWPD.keep [0, 1, 7, 8, 10, 11, 12, 13] rfl ?_
      refine AWPD.region tabOK rfl ?_
      refine Exists.intro _ (Exists.intro _ (And.intro (StepD.callG errG_stays rfl hG0 (error_fn _ _) rfl rfl rfl) (And.intro rfl (And.intro trivial ?_))))
      repeat refine And.intro (by first | exact fun h => h | exact fun _ => rfl | (intro h; rw [h]; rfl) | omega | (intros; (try dsimp only [Ty.T, Ty.size]); (try simp only [castL_self, Int.toNat_natCast, Int.toNat_zero, Int.toNat_one, true_and, List.length_append, List.length_set, List.length_drop, List.length_take, List.length_replicate, List.length_cons, List.length_nil, Nat.zero_add, Nat.mul_one]); omega) | decide | (intros; simp_all; done) | (intros; simp_all; omega)) ?_
      refine Exists.intro _ (Exists.intro _ (And.intro (fun hg => StepD.call (by first | exact ints_fn _ _ (by omega) | exact LiftsD.fit (ints_fn [] [] (by decide)) ⟨⟨rfl, rfl⟩, ⟨rfl, by decide⟩, trivial⟩) rfl rfl rfl) (And.intro (fun hf => rfl) (And.intro rfl (And.intro trivial ?_)))))
      repeat refine And.intro (by first | exact fun h => h | exact fun _ => rfl | (intro h; rw [h]; rfl) | omega | (intros; (try dsimp only [Ty.T, Ty.size]); (try simp only [castL_self, Int.toNat_natCast, Int.toNat_zero, Int.toNat_one, true_and, List.length_append, List.length_set, List.length_drop, List.length_take, List.length_replicate, List.length_cons, List.length_nil, Nat.zero_add, Nat.mul_one]); omega) | decide | (intros; simp_all; done) | (intros; simp_all; omega)) ?_
      refine hK34 _ _ ?_
      clear hK34
      refine AWPD.seq fun K35 hK35 => ?_
      -- region 14
      refine AWPD.keep [0, 1, 8, 13, 14] rfl ?_
      refine AWPD.region tabOK rfl ?_
      refine Exists.intro _ (Exists.intro _ (And.intro (StepD.call (rtwo_fn _ _) rfl rfl rfl) (And.intro rfl (And.intro trivial ?_))))
      refine hK35 _ _ ?_
      clear hK35
      refine AWPD.seq fun K36 hK36 => ?_
      -- region 15
      refine AWPD.keep [0, 1, 7, 8, 13, 14] rfl ?_
      refine AWPD.region tabOK rfl ?_
      refine hK36 _ _ ?_
      clear hK36
      refine AWPD.seq fun K37 hK37 => ?_
      -- region 16
      refine AWPD.keep [0, 1, 7, 8, 13, 14, 15, 16] rfl ?_
      refine AWPD.region tabOK rfl ?_
      refine hK37 _ _ ?_
      clear hK37
      refine AWPD.seq fun K38 hK38 => ?_
      refine AWPD.seq fun K39 hK39 => ?_
      -- region 17
      refine AWPD.keep [0, 1, 7, 8, 13, 14, 15, 16, 17] rfl ?_
      refine AWPD.region tabOK rfl ?_
      refine hK39 _ _ ?_
      clear hK39
      first | refine AWPD.condP rfl (fun h2 => ?_) (fun h2 => ?_) | refine AWPD.condN rfl (fun h2 => ?_) (fun h2 => ?_) | refine AWPD.condAP rfl (fun h2 => ?_) (fun h2 => ?_) | refine AWPD.condOP rfl (fun h2 => ?_) (fun h2 => ?_) | refine AWPD.condONN rfl (fun h2 => ?_) (fun h2 => ?_) | refine AWPD.condOPN rfl (fun h2 => ?_) (fun h2 => ?_) | refine AWPD.condA rfl (fun h2 => ?_) (fun h2 => ?_) | refine AWPD.condO rfl (fun h2 => ?_) (fun h2 => ?_) | refine AWPD.cond rfl (fun h2 => ?_) (fun h2 => ?_)
      · try dsimp only [Ty.T] at h2
        try simp only [castL_self] at h2
        try simp only [Int.toNat_natCast] at h2
        try simp only [Int.toNat_zero] at h2
        try (exact absurd (twoE_ok h2).1 hnp; done)
        all_goals
          have he2 : twoE p q = 0 := h2
          obtain ⟨hp2, hq2, hpq2, hl2⟩ := twoE_ok he2
          obtain ⟨hm12, hj12⟩ := two_len he2
          have hmi := meet_is he2
          have hji := join_is he2
          refine AWPD.seq fun K40 hK40 => ?_
          -- region 18
          refine AWPD.keep [0, 1, 7, 8, 13, 14] rfl ?_
          refine AWPD.region tabOK rfl ?_
          refine Exists.intro _ (Exists.intro _ (And.intro (StepD.call (rmeet_fn _ _ _ (by omega) (by omega)) rfl rfl rfl) (And.intro rfl (And.intro trivial ?_))))
          refine hK40 _ _ ?_
          clear hK40
          refine AWPD.seq fun K41 hK41 => ?_
          -- region 19
          refine AWPD.keep [0, 1, 7, 8, 13, 14, 15] rfl ?_
          refine AWPD.region tabOK rfl ?_
          refine Exists.intro _ (Exists.intro _ (And.intro (StepD.call (rmeet_fn _ _ _ (by omega) (by omega)) rfl rfl rfl) (And.intro rfl (And.intro trivial ?_))))
          refine hK41 _ _ ?_
          clear hK41
          -- region 20
          refine AWPD.keep [0, 1, 7, 8, 13, 14, 15, 16] rfl ?_
          refine AWPD.region tabOK rfl ?_
          refine Exists.intro _ (Exists.intro _ (And.intro (StepD.call (rfiner_fn _ _ (by assumption)) rfl rfl rfl) (And.intro rfl (And.intro trivial ?_))))
          refine hK38 _ _ ?_
          clear hK38
          refine AWPD.seq fun K42 hK42 => ?_
          -- region 21
          try rw [hmi]
          try rw [hji]
          refine AWPD.keep [0, 1, 7, 8, 13, 14, 15, 16, 17] rfl ?_
          refine AWPD.region tabOK rfl ?_
          refine Exists.intro _ (Exists.intro _ (And.intro (StepD.call (meet_fn _ _) rfl rfl rfl) (And.intro rfl (And.intro trivial ?_))))
          refine hK42 _ _ ?_
          clear hK42
          refine AWPD.seq fun K43 hK43 => ?_
          -- region 22
          try rw [hmi]
          try rw [hji]
          try rw [hm0]
          refine AWPD.keep [0, 1, 7, 8, 11, 12, 13, 14, 15, 16, 17] rfl ?_
          refine AWPD.region tabOK rfl ?_
          refine Exists.intro _ (Exists.intro _ (And.intro (StepD.callG errG_stays rfl hG0 (error_fn _ _) rfl rfl rfl) (And.intro rfl (And.intro trivial ?_))))
          repeat refine And.intro (by first | exact fun h => h | exact fun _ => rfl | (intro h; rw [h]; rfl) | omega | (intros; (try dsimp only [Ty.T, Ty.size]); (try simp only [castL_self, Int.toNat_natCast, Int.toNat_zero, Int.toNat_one, true_and, List.length_append, List.length_set, List.length_drop, List.length_take, List.length_replicate, List.length_cons, List.length_nil, Nat.zero_add, Nat.mul_one]); omega) | decide | (intros; simp_all; done) | (intros; simp_all; omega)) ?_
          refine Exists.intro _ (Exists.intro _ (And.intro (fun hg => StepD.call (by first | exact ints_fn _ _ (by omega) | exact LiftsD.fit (ints_fn [] [] (by decide)) ⟨⟨rfl, rfl⟩, ⟨rfl, by decide⟩, trivial⟩) rfl rfl rfl) (And.intro (fun hf => rfl) (And.intro rfl (And.intro trivial ?_)))))
          repeat refine And.intro (by first | exact fun h => h | exact fun _ => rfl | (intro h; rw [h]; rfl) | omega | (intros; (try dsimp only [Ty.T, Ty.size]); (try simp only [castL_self, Int.toNat_natCast, Int.toNat_zero, Int.toNat_one, true_and, List.length_append, List.length_set, List.length_drop, List.length_take, List.length_replicate, List.length_cons, List.length_nil, Nat.zero_add, Nat.mul_one]); omega) | decide | (intros; simp_all; done) | (intros; simp_all; omega)) ?_
          refine hK43 _ _ ?_
          clear hK43
          refine AWPD.seq fun K44 hK44 => ?_
          -- region 23
          refine AWPD.keep [0, 1, 7, 8, 13, 14, 16, 17, 18] rfl ?_
          refine AWPD.region tabOK rfl ?_
          refine Exists.intro _ (Exists.intro _ (And.intro (StepD.call (join_fn _ _) rfl rfl rfl) (And.intro rfl (And.intro trivial ?_))))
          refine hK44 _ _ ?_
          clear hK44
          refine AWPD.seq fun K45 hK45 => ?_
          -- region 24
          try rw [hj0]
          refine AWPD.keep [0, 1, 7, 8, 11, 12, 13, 14, 16, 17, 18] rfl ?_
          refine AWPD.region tabOK rfl ?_
          refine Exists.intro _ (Exists.intro _ (And.intro (StepD.callG errG_stays rfl hG0 (error_fn _ _) rfl rfl rfl) (And.intro rfl (And.intro trivial ?_))))
          repeat refine And.intro (by first | exact fun h => h | exact fun _ => rfl | (intro h; rw [h]; rfl) | omega | (intros; (try dsimp only [Ty.T, Ty.size]); (try simp only [castL_self, Int.toNat_natCast, Int.toNat_zero, Int.toNat_one, true_and, List.length_append, List.length_set, List.length_drop, List.length_take, List.length_replicate, List.length_cons, List.length_nil, Nat.zero_add, Nat.mul_one]); omega) | decide | (intros; simp_all; done) | (intros; simp_all; omega)) ?_
          refine Exists.intro _ (Exists.intro _ (And.intro (fun hg => StepD.call (by first | exact ints_fn _ _ (by omega) | exact LiftsD.fit (ints_fn [] [] (by decide)) ⟨⟨rfl, rfl⟩, ⟨rfl, by decide⟩, trivial⟩) rfl rfl rfl) (And.intro (fun hf => rfl) (And.intro rfl (And.intro trivial ?_)))))
          repeat refine And.intro (by first | exact fun h => h | exact fun _ => rfl | (intro h; rw [h]; rfl) | omega | (intros; (try dsimp only [Ty.T, Ty.size]); (try simp only [castL_self, Int.toNat_natCast, Int.toNat_zero, Int.toNat_one, true_and, List.length_append, List.length_set, List.length_drop, List.length_take, List.length_replicate, List.length_cons, List.length_nil, Nat.zero_add, Nat.mul_one]); omega) | decide | (intros; simp_all; done) | (intros; simp_all; omega)) ?_
          refine hK45 _ _ ?_
          clear hK45
          refine AWPD.seq fun K46 hK46 => ?_
          -- region 25
          refine AWPD.keep [0, 1, 7, 8, 13, 14, 17, 18, 19] rfl ?_
          refine AWPD.region tabOK rfl ?_
          refine Exists.intro _ (Exists.intro _ (And.intro (StepD.call (finer_fn _ _) rfl rfl rfl) (And.intro rfl (And.intro trivial ?_))))
          refine hK46 _ _ ?_
          clear hK46
          refine AWPD.seq fun K47 hK47 => ?_
          -- region 26
          refine AWPD.keep [7, 8, 12, 13, 14, 17, 18, 19, 20] rfl ?_
          refine AWPD.region tabOK rfl ?_
          repeat refine And.intro (by first | exact fun h => h | exact fun _ => rfl | (intro h; rw [h]; rfl) | omega | (intros; (try dsimp only [Ty.T, Ty.size]); (try simp only [castL_self, Int.toNat_natCast, Int.toNat_zero, Int.toNat_one, true_and, List.length_append, List.length_set, List.length_drop, List.length_take, List.length_replicate, List.length_cons, List.length_nil, Nat.zero_add, Nat.mul_one]); omega) | decide | (intros; simp_all; done) | (intros; simp_all; omega)) ?_
          refine Exists.intro _ (Exists.intro _ (And.intro (fun hg => StepD.callG errG_stays rfl hG0 (error_fn _ _) rfl rfl rfl) (And.intro (fun hf => rfl) (And.intro rfl (And.intro trivial ?_)))))
          repeat refine And.intro (by first | exact fun h => h | exact fun _ => rfl | (intro h; rw [h]; rfl) | omega | (intros; (try dsimp only [Ty.T, Ty.size]); (try simp only [castL_self, Int.toNat_natCast, Int.toNat_zero, Int.toNat_one, true_and, List.length_append, List.length_set, List.length_drop, List.length_take, List.length_replicate, List.length_cons, List.length_nil, Nat.zero_add, Nat.mul_one]); omega) | decide | (intros; simp_all; done) | (intros; simp_all; omega)) ?_
          refine hK47 _ _ ?_
          clear hK47
          refine AWPD.ret (And.intro (.inl rfl) ?_)
          -- result 2
          refine RetD.one ?_
          refine fitB rfl ?_
          simp [*]
      · try dsimp only [Ty.T] at h2
        try simp only [castL_self] at h2
        try simp only [Int.toNat_natCast] at h2
        try simp only [Int.toNat_zero] at h2
        have hne2 : ¬twoE p q = 0 := h2
        have hm0 : meetL p q = [] := by unfold meetL; rw [if_neg hne2]
        have hj0 : joinL p q = [] := by unfold joinL; rw [if_neg hne2]
        have hf0 : finerV p q = false := by unfold finerV; rw [if_neg hne2]
        refine AWPD.skip ?_
        refine hK38 _ _ ?_
        clear hK38
        refine AWPD.seq fun K48 hK48 => ?_
        -- region 21
        try rw [hmi]
        try rw [hji]
        refine AWPD.keep [0, 1, 7, 8, 13, 14, 15, 16, 17] rfl ?_
        refine AWPD.region tabOK rfl ?_
        refine Exists.intro _ (Exists.intro _ (And.intro (StepD.call (meet_fn _ _) rfl rfl rfl) (And.intro rfl (And.intro trivial ?_))))
        refine hK48 _ _ ?_
        clear hK48
        refine AWPD.seq fun K49 hK49 => ?_
        -- region 22
        try rw [hmi]
        try rw [hji]
        try rw [hm0]
        refine AWPD.keep [0, 1, 7, 8, 11, 12, 13, 14, 15, 16, 17] rfl ?_
        refine AWPD.region tabOK rfl ?_
        refine Exists.intro _ (Exists.intro _ (And.intro (StepD.callG errG_stays rfl hG0 (error_fn _ _) rfl rfl rfl) (And.intro rfl (And.intro trivial ?_))))
        repeat refine And.intro (by first | exact fun h => h | exact fun _ => rfl | (intro h; rw [h]; rfl) | omega | (intros; (try dsimp only [Ty.T, Ty.size]); (try simp only [castL_self, Int.toNat_natCast, Int.toNat_zero, Int.toNat_one, true_and, List.length_append, List.length_set, List.length_drop, List.length_take, List.length_replicate, List.length_cons, List.length_nil, Nat.zero_add, Nat.mul_one]); omega) | decide | (intros; simp_all; done) | (intros; simp_all; omega)) ?_
        refine Exists.intro _ (Exists.intro _ (And.intro (fun hg => StepD.call (by first | exact ints_fn _ _ (by omega) | exact LiftsD.fit (ints_fn [] [] (by decide)) ⟨⟨rfl, rfl⟩, ⟨rfl, by decide⟩, trivial⟩) rfl rfl rfl) (And.intro (fun hf => rfl) (And.intro rfl (And.intro trivial ?_)))))
        repeat refine And.intro (by first | exact fun h => h | exact fun _ => rfl | (intro h; rw [h]; rfl) | omega | (intros; (try dsimp only [Ty.T, Ty.size]); (try simp only [castL_self, Int.toNat_natCast, Int.toNat_zero, Int.toNat_one, true_and, List.length_append, List.length_set, List.length_drop, List.length_take, List.length_replicate, List.length_cons, List.length_nil, Nat.zero_add, Nat.mul_one]); omega) | decide | (intros; simp_all; done) | (intros; simp_all; omega)) ?_
        refine hK49 _ _ ?_
        clear hK49
        refine AWPD.seq fun K50 hK50 => ?_
        -- region 23
        refine AWPD.keep [0, 1, 7, 8, 13, 14, 16, 17, 18] rfl ?_
        refine AWPD.region tabOK rfl ?_
        refine Exists.intro _ (Exists.intro _ (And.intro (StepD.call (join_fn _ _) rfl rfl rfl) (And.intro rfl (And.intro trivial ?_))))
        refine hK50 _ _ ?_
        clear hK50
        refine AWPD.seq fun K51 hK51 => ?_
        -- region 24
        try rw [hj0]
        refine AWPD.keep [0, 1, 7, 8, 11, 12, 13, 14, 16, 17, 18] rfl ?_
        refine AWPD.region tabOK rfl ?_
        refine Exists.intro _ (Exists.intro _ (And.intro (StepD.callG errG_stays rfl hG0 (error_fn _ _) rfl rfl rfl) (And.intro rfl (And.intro trivial ?_))))
        repeat refine And.intro (by first | exact fun h => h | exact fun _ => rfl | (intro h; rw [h]; rfl) | omega | (intros; (try dsimp only [Ty.T, Ty.size]); (try simp only [castL_self, Int.toNat_natCast, Int.toNat_zero, Int.toNat_one, true_and, List.length_append, List.length_set, List.length_drop, List.length_take, List.length_replicate, List.length_cons, List.length_nil, Nat.zero_add, Nat.mul_one]); omega) | decide | (intros; simp_all; done) | (intros; simp_all; omega)) ?_
        refine Exists.intro _ (Exists.intro _ (And.intro (fun hg => StepD.call (by first | exact ints_fn _ _ (by omega) | exact LiftsD.fit (ints_fn [] [] (by decide)) ⟨⟨rfl, rfl⟩, ⟨rfl, by decide⟩, trivial⟩) rfl rfl rfl) (And.intro (fun hf => rfl) (And.intro rfl (And.intro trivial ?_)))))
        repeat refine And.intro (by first | exact fun h => h | exact fun _ => rfl | (intro h; rw [h]; rfl) | omega | (intros; (try dsimp only [Ty.T, Ty.size]); (try simp only [castL_self, Int.toNat_natCast, Int.toNat_zero, Int.toNat_one, true_and, List.length_append, List.length_set, List.length_drop, List.length_take, List.length_replicate, List.length_cons, List.length_nil, Nat.zero_add, Nat.mul_one]); omega) | decide | (intros; simp_all; done) | (intros; simp_all; omega)) ?_
        refine hK51 _ _ ?_
        clear hK51
        refine AWPD.seq fun K52 hK52 => ?_
        -- region 25
        refine AWPD.keep [0, 1, 7, 8, 13, 14, 17, 18, 19] rfl ?_
        refine AWPD.region tabOK rfl ?_
        refine Exists.intro _ (Exists.intro _ (And.intro (StepD.call (finer_fn _ _) rfl rfl rfl) (And.intro rfl (And.intro trivial ?_))))
        refine hK52 _ _ ?_
        clear hK52
        refine AWPD.seq fun K53 hK53 => ?_
        -- region 26
        refine AWPD.keep [7, 8, 12, 13, 14, 17, 18, 19, 20] rfl ?_
        refine AWPD.region tabOK rfl ?_
        repeat refine And.intro (by first | exact fun h => h | exact fun _ => rfl | (intro h; rw [h]; rfl) | omega | (intros; (try dsimp only [Ty.T, Ty.size]); (try simp only [castL_self, Int.toNat_natCast, Int.toNat_zero, Int.toNat_one, true_and, List.length_append, List.length_set, List.length_drop, List.length_take, List.length_replicate, List.length_cons, List.length_nil, Nat.zero_add, Nat.mul_one]); omega) | decide | (intros; simp_all; done) | (intros; simp_all; omega)) ?_
        refine Exists.intro _ (Exists.intro _ (And.intro (fun hg => StepD.callG errG_stays rfl hG0 (error_fn _ _) rfl rfl rfl) (And.intro (fun hf => rfl) (And.intro rfl (And.intro trivial ?_)))))
        repeat refine And.intro (by first | exact fun h => h | exact fun _ => rfl | (intro h; rw [h]; rfl) | omega | (intros; (try dsimp only [Ty.T, Ty.size]); (try simp only [castL_self, Int.toNat_natCast, Int.toNat_zero, Int.toNat_one, true_and, List.length_append, List.length_set, List.length_drop, List.length_take, List.length_replicate, List.length_cons, List.length_nil, Nat.zero_add, Nat.mul_one]); omega) | decide | (intros; simp_all; done) | (intros; simp_all; omega)) ?_
        refine hK53 _ _ ?_
        clear hK53
        refine AWPD.ret (And.intro (.inl rfl) ?_)
        -- result 3
        refine RetD.one ?_
        refine fitB rfl ?_
        simp [*]
  · try dsimp only [Ty.T] at h0
    try simp only [castL_self] at h0
    try simp only [Int.toNat_natCast] at h0
    try simp only [Int.toNat_zero] at h0
    have hnp : ¬partE p = 0 := h0
    have hc0 : clsL p = [] := by unfold clsL; rw [if_neg hnp]
    refine AWPD.skip ?_
    refine hK5 _ _ ?_
    clear hK5
    refine AWPD.seq fun K54 hK54 => ?_
    -- region 6
    refine AWPD.keep [0, 1, 2, 7, 8, 9, 10] rfl ?_
    refine AWPD.region tabOK rfl ?_
    refine Exists.intro _ (Exists.intro _ (And.intro (StepD.call (classes_fn _) rfl rfl rfl) (And.intro rfl (And.intro trivial ?_))))
    refine hK54 _ _ ?_
    clear hK54
    refine AWPD.seq fun K55 hK55 => ?_
    -- region 7
    try rw [hc0]
    refine AWPD.keep [0, 1, 2, 7, 8, 9, 10, 11, 12] rfl ?_
    refine AWPD.region tabOK rfl ?_
    refine Exists.intro _ (Exists.intro _ (And.intro (StepD.callG errG_stays rfl hG0 (error_fn _ _) rfl rfl rfl) (And.intro rfl (And.intro trivial ?_))))
    repeat refine And.intro (by first | exact fun h => h | exact fun _ => rfl | (intro h; rw [h]; rfl) | omega | (intros; (try dsimp only [Ty.T, Ty.size]); (try simp only [castL_self, Int.toNat_natCast, Int.toNat_zero, Int.toNat_one, true_and, List.length_append, List.length_set, List.length_drop, List.length_take, List.length_replicate, List.length_cons, List.length_nil, Nat.zero_add, Nat.mul_one]); omega) | decide | (intros; simp_all; done) | (intros; simp_all; omega)) ?_
    refine Exists.intro _ (Exists.intro _ (And.intro (fun hg => StepD.call (by first | exact ints_fn _ _ (by omega) | exact LiftsD.fit (ints_fn [] [] (by decide)) ⟨⟨rfl, rfl⟩, ⟨rfl, by decide⟩, trivial⟩) rfl rfl rfl) (And.intro (fun hf => rfl) (And.intro rfl (And.intro trivial ?_)))))
    repeat refine And.intro (by first | exact fun h => h | exact fun _ => rfl | (intro h; rw [h]; rfl) | omega | (intros; (try dsimp only [Ty.T, Ty.size]); (try simp only [castL_self, Int.toNat_natCast, Int.toNat_zero, Int.toNat_one, true_and, List.length_append, List.length_set, List.length_drop, List.length_take, List.length_replicate, List.length_cons, List.length_nil, Nat.zero_add, Nat.mul_one]); omega) | decide | (intros; simp_all; done) | (intros; simp_all; omega)) ?_
    refine hK55 _ _ ?_
    clear hK55
    refine AWPD.seq fun K56 hK56 => ?_
    -- region 8
    refine AWPD.keep [0, 1, 2, 8, 10, 13] rfl ?_
    refine AWPD.region tabOK rfl ?_
    refine hK56 _ _ ?_
    clear hK56
    refine AWPD.seq fun K57 hK57 => ?_
    refine AWPD.seq fun K58 hK58 => ?_
    -- region 9
    refine AWPD.keep [0, 1, 2, 7, 8, 10, 13] rfl ?_
    refine AWPD.region tabOK rfl ?_
    refine hK58 _ _ ?_
    clear hK58
    first | refine AWPD.condP rfl (fun h1 => ?_) (fun h1 => ?_) | refine AWPD.condN rfl (fun h1 => ?_) (fun h1 => ?_) | refine AWPD.condAP rfl (fun h1 => ?_) (fun h1 => ?_) | refine AWPD.condOP rfl (fun h1 => ?_) (fun h1 => ?_) | refine AWPD.condONN rfl (fun h1 => ?_) (fun h1 => ?_) | refine AWPD.condOPN rfl (fun h1 => ?_) (fun h1 => ?_) | refine AWPD.condA rfl (fun h1 => ?_) (fun h1 => ?_) | refine AWPD.condO rfl (fun h1 => ?_) (fun h1 => ?_) | refine AWPD.cond rfl (fun h1 => ?_) (fun h1 => ?_)
    · try dsimp only [Ty.T] at h1
      try simp only [castL_self] at h1
      try simp only [Int.toNat_natCast] at h1
      try simp only [Int.toNat_zero] at h1
      have ho0 : ofL l = [] := by unfold ofL; rw [if_pos (by omega)]
      have hoe : ofE l = 4 := by unfold ofE; rw [if_pos (by omega)]
      -- region 10
      refine AWPD.keep [0, 1, 2, 8, 10, 13] rfl ?_
      refine AWPD.region tabOK rfl ?_
      refine hK57 _ _ ?_
      clear hK57
      refine AWPD.seq fun K59 hK59 => ?_
      -- region 12
      refine AWPD.keep [0, 1, 2, 7, 8, 10, 13] rfl ?_
      refine AWPD.region tabOK rfl ?_
      refine Exists.intro _ (Exists.intro _ (And.intro (StepD.call (of_fn _) rfl rfl rfl) (And.intro rfl (And.intro trivial ?_))))
      refine hK59 _ _ ?_
      clear hK59
      refine AWPD.seq fun K60 hK60 => ?_
      -- region 13
      try rw [ho0]
      refine AWPD.keep [0, 1, 7, 8, 10, 11, 12, 13] rfl ?_
      refine AWPD.region tabOK rfl ?_
      refine Exists.intro _ (Exists.intro _ (And.intro (StepD.callG errG_stays rfl hG0 (error_fn _ _) rfl rfl rfl) (And.intro rfl (And.intro trivial ?_))))
      repeat refine And.intro (by first | exact fun h => h | exact fun _ => rfl | (intro h; rw [h]; rfl) | omega | (intros; (try dsimp only [Ty.T, Ty.size]); (try simp only [castL_self, Int.toNat_natCast, Int.toNat_zero, Int.toNat_one, true_and, List.length_append, List.length_set, List.length_drop, List.length_take, List.length_replicate, List.length_cons, List.length_nil, Nat.zero_add, Nat.mul_one]); omega) | decide | (intros; simp_all; done) | (intros; simp_all; omega)) ?_
      refine Exists.intro _ (Exists.intro _ (And.intro (fun hg => StepD.call (by first | exact ints_fn _ _ (by omega) | exact LiftsD.fit (ints_fn [] [] (by decide)) ⟨⟨rfl, rfl⟩, ⟨rfl, by decide⟩, trivial⟩) rfl rfl rfl) (And.intro (fun hf => rfl) (And.intro rfl (And.intro trivial ?_)))))
      repeat refine And.intro (by first | exact fun h => h | exact fun _ => rfl | (intro h; rw [h]; rfl) | omega | (intros; (try dsimp only [Ty.T, Ty.size]); (try simp only [castL_self, Int.toNat_natCast, Int.toNat_zero, Int.toNat_one, true_and, List.length_append, List.length_set, List.length_drop, List.length_take, List.length_replicate, List.length_cons, List.length_nil, Nat.zero_add, Nat.mul_one]); omega) | decide | (intros; simp_all; done) | (intros; simp_all; omega)) ?_
      refine hK60 _ _ ?_
      clear hK60
      refine AWPD.seq fun K61 hK61 => ?_
      -- region 14
      refine AWPD.keep [0, 1, 8, 13, 14] rfl ?_
      refine AWPD.region tabOK rfl ?_
      refine Exists.intro _ (Exists.intro _ (And.intro (StepD.call (rtwo_fn _ _) rfl rfl rfl) (And.intro rfl (And.intro trivial ?_))))
      refine hK61 _ _ ?_
      clear hK61
      refine AWPD.seq fun K62 hK62 => ?_
      -- region 15
      refine AWPD.keep [0, 1, 7, 8, 13, 14] rfl ?_
      refine AWPD.region tabOK rfl ?_
      refine hK62 _ _ ?_
      clear hK62
      refine AWPD.seq fun K63 hK63 => ?_
      -- region 16
      refine AWPD.keep [0, 1, 7, 8, 13, 14, 15, 16] rfl ?_
      refine AWPD.region tabOK rfl ?_
      refine hK63 _ _ ?_
      clear hK63
      refine AWPD.seq fun K64 hK64 => ?_
      refine AWPD.seq fun K65 hK65 => ?_
      -- region 17
      refine AWPD.keep [0, 1, 7, 8, 13, 14, 15, 16, 17] rfl ?_
      refine AWPD.region tabOK rfl ?_
      refine hK65 _ _ ?_
      clear hK65
      first | refine AWPD.condP rfl (fun h2 => ?_) (fun h2 => ?_) | refine AWPD.condN rfl (fun h2 => ?_) (fun h2 => ?_) | refine AWPD.condAP rfl (fun h2 => ?_) (fun h2 => ?_) | refine AWPD.condOP rfl (fun h2 => ?_) (fun h2 => ?_) | refine AWPD.condONN rfl (fun h2 => ?_) (fun h2 => ?_) | refine AWPD.condOPN rfl (fun h2 => ?_) (fun h2 => ?_) | refine AWPD.condA rfl (fun h2 => ?_) (fun h2 => ?_) | refine AWPD.condO rfl (fun h2 => ?_) (fun h2 => ?_) | refine AWPD.cond rfl (fun h2 => ?_) (fun h2 => ?_)
      · try dsimp only [Ty.T] at h2
        try simp only [castL_self] at h2
        try simp only [Int.toNat_natCast] at h2
        try simp only [Int.toNat_zero] at h2
        try (exact absurd (twoE_ok h2).1 hnp; done)
        all_goals
          have he2 : twoE p q = 0 := h2
          obtain ⟨hp2, hq2, hpq2, hl2⟩ := twoE_ok he2
          obtain ⟨hm12, hj12⟩ := two_len he2
          have hmi := meet_is he2
          have hji := join_is he2
          refine AWPD.seq fun K66 hK66 => ?_
          -- region 18
          refine AWPD.keep [0, 1, 7, 8, 13, 14] rfl ?_
          refine AWPD.region tabOK rfl ?_
          refine Exists.intro _ (Exists.intro _ (And.intro (StepD.call (rmeet_fn _ _ _ (by omega) (by omega)) rfl rfl rfl) (And.intro rfl (And.intro trivial ?_))))
          refine hK66 _ _ ?_
          clear hK66
          refine AWPD.seq fun K67 hK67 => ?_
          -- region 19
          refine AWPD.keep [0, 1, 7, 8, 13, 14, 15] rfl ?_
          refine AWPD.region tabOK rfl ?_
          refine Exists.intro _ (Exists.intro _ (And.intro (StepD.call (rmeet_fn _ _ _ (by omega) (by omega)) rfl rfl rfl) (And.intro rfl (And.intro trivial ?_))))
          refine hK67 _ _ ?_
          clear hK67
          -- region 20
          refine AWPD.keep [0, 1, 7, 8, 13, 14, 15, 16] rfl ?_
          refine AWPD.region tabOK rfl ?_
          refine Exists.intro _ (Exists.intro _ (And.intro (StepD.call (rfiner_fn _ _ (by assumption)) rfl rfl rfl) (And.intro rfl (And.intro trivial ?_))))
          refine hK64 _ _ ?_
          clear hK64
          refine AWPD.seq fun K68 hK68 => ?_
          -- region 21
          try rw [hmi]
          try rw [hji]
          refine AWPD.keep [0, 1, 7, 8, 13, 14, 15, 16, 17] rfl ?_
          refine AWPD.region tabOK rfl ?_
          refine Exists.intro _ (Exists.intro _ (And.intro (StepD.call (meet_fn _ _) rfl rfl rfl) (And.intro rfl (And.intro trivial ?_))))
          refine hK68 _ _ ?_
          clear hK68
          refine AWPD.seq fun K69 hK69 => ?_
          -- region 22
          try rw [hmi]
          try rw [hji]
          try rw [hm0]
          refine AWPD.keep [0, 1, 7, 8, 11, 12, 13, 14, 15, 16, 17] rfl ?_
          refine AWPD.region tabOK rfl ?_
          refine Exists.intro _ (Exists.intro _ (And.intro (StepD.callG errG_stays rfl hG0 (error_fn _ _) rfl rfl rfl) (And.intro rfl (And.intro trivial ?_))))
          repeat refine And.intro (by first | exact fun h => h | exact fun _ => rfl | (intro h; rw [h]; rfl) | omega | (intros; (try dsimp only [Ty.T, Ty.size]); (try simp only [castL_self, Int.toNat_natCast, Int.toNat_zero, Int.toNat_one, true_and, List.length_append, List.length_set, List.length_drop, List.length_take, List.length_replicate, List.length_cons, List.length_nil, Nat.zero_add, Nat.mul_one]); omega) | decide | (intros; simp_all; done) | (intros; simp_all; omega)) ?_
          refine Exists.intro _ (Exists.intro _ (And.intro (fun hg => StepD.call (by first | exact ints_fn _ _ (by omega) | exact LiftsD.fit (ints_fn [] [] (by decide)) ⟨⟨rfl, rfl⟩, ⟨rfl, by decide⟩, trivial⟩) rfl rfl rfl) (And.intro (fun hf => rfl) (And.intro rfl (And.intro trivial ?_)))))
          repeat refine And.intro (by first | exact fun h => h | exact fun _ => rfl | (intro h; rw [h]; rfl) | omega | (intros; (try dsimp only [Ty.T, Ty.size]); (try simp only [castL_self, Int.toNat_natCast, Int.toNat_zero, Int.toNat_one, true_and, List.length_append, List.length_set, List.length_drop, List.length_take, List.length_replicate, List.length_cons, List.length_nil, Nat.zero_add, Nat.mul_one]); omega) | decide | (intros; simp_all; done) | (intros; simp_all; omega)) ?_
          refine hK69 _ _ ?_
          clear hK69
          refine AWPD.seq fun K70 hK70 => ?_
          -- region 23
          refine AWPD.keep [0, 1, 7, 8, 13, 14, 16, 17, 18] rfl ?_
          refine AWPD.region tabOK rfl ?_
          refine Exists.intro _ (Exists.intro _ (And.intro (StepD.call (join_fn _ _) rfl rfl rfl) (And.intro rfl (And.intro trivial ?_))))
          refine hK70 _ _ ?_
          clear hK70
          refine AWPD.seq fun K71 hK71 => ?_
          -- region 24
          try rw [hj0]
          refine AWPD.keep [0, 1, 7, 8, 11, 12, 13, 14, 16, 17, 18] rfl ?_
          refine AWPD.region tabOK rfl ?_
          refine Exists.intro _ (Exists.intro _ (And.intro (StepD.callG errG_stays rfl hG0 (error_fn _ _) rfl rfl rfl) (And.intro rfl (And.intro trivial ?_))))
          repeat refine And.intro (by first | exact fun h => h | exact fun _ => rfl | (intro h; rw [h]; rfl) | omega | (intros; (try dsimp only [Ty.T, Ty.size]); (try simp only [castL_self, Int.toNat_natCast, Int.toNat_zero, Int.toNat_one, true_and, List.length_append, List.length_set, List.length_drop, List.length_take, List.length_replicate, List.length_cons, List.length_nil, Nat.zero_add, Nat.mul_one]); omega) | decide | (intros; simp_all; done) | (intros; simp_all; omega)) ?_
          refine Exists.intro _ (Exists.intro _ (And.intro (fun hg => StepD.call (by first | exact ints_fn _ _ (by omega) | exact LiftsD.fit (ints_fn [] [] (by decide)) ⟨⟨rfl, rfl⟩, ⟨rfl, by decide⟩, trivial⟩) rfl rfl rfl) (And.intro (fun hf => rfl) (And.intro rfl (And.intro trivial ?_)))))
          repeat refine And.intro (by first | exact fun h => h | exact fun _ => rfl | (intro h; rw [h]; rfl) | omega | (intros; (try dsimp only [Ty.T, Ty.size]); (try simp only [castL_self, Int.toNat_natCast, Int.toNat_zero, Int.toNat_one, true_and, List.length_append, List.length_set, List.length_drop, List.length_take, List.length_replicate, List.length_cons, List.length_nil, Nat.zero_add, Nat.mul_one]); omega) | decide | (intros; simp_all; done) | (intros; simp_all; omega)) ?_
          refine hK71 _ _ ?_
          clear hK71
          refine AWPD.seq fun K72 hK72 => ?_
          -- region 25
          refine AWPD.keep [0, 1, 7, 8, 13, 14, 17, 18, 19] rfl ?_
          refine AWPD.region tabOK rfl ?_
          refine Exists.intro _ (Exists.intro _ (And.intro (StepD.call (finer_fn _ _) rfl rfl rfl) (And.intro rfl (And.intro trivial ?_))))
          refine hK72 _ _ ?_
          clear hK72
          refine AWPD.seq fun K73 hK73 => ?_
          -- region 26
          refine AWPD.keep [7, 8, 12, 13, 14, 17, 18, 19, 20] rfl ?_
          refine AWPD.region tabOK rfl ?_
          repeat refine And.intro (by first | exact fun h => h | exact fun _ => rfl | (intro h; rw [h]; rfl) | omega | (intros; (try dsimp only [Ty.T, Ty.size]); (try simp only [castL_self, Int.toNat_natCast, Int.toNat_zero, Int.toNat_one, true_and, List.length_append, List.length_set, List.length_drop, List.length_take, List.length_replicate, List.length_cons, List.length_nil, Nat.zero_add, Nat.mul_one]); omega) | decide | (intros; simp_all; done) | (intros; simp_all; omega)) ?_
          refine Exists.intro _ (Exists.intro _ (And.intro (fun hg => StepD.callG errG_stays rfl hG0 (error_fn _ _) rfl rfl rfl) (And.intro (fun hf => rfl) (And.intro rfl (And.intro trivial ?_)))))
          repeat refine And.intro (by first | exact fun h => h | exact fun _ => rfl | (intro h; rw [h]; rfl) | omega | (intros; (try dsimp only [Ty.T, Ty.size]); (try simp only [castL_self, Int.toNat_natCast, Int.toNat_zero, Int.toNat_one, true_and, List.length_append, List.length_set, List.length_drop, List.length_take, List.length_replicate, List.length_cons, List.length_nil, Nat.zero_add, Nat.mul_one]); omega) | decide | (intros; simp_all; done) | (intros; simp_all; omega)) ?_
          refine hK73 _ _ ?_
          clear hK73
          refine AWPD.ret (And.intro (.inl rfl) ?_)
          -- result 4
          refine RetD.one ?_
          refine fitB rfl ?_
          simp [*]
      · try dsimp only [Ty.T] at h2
        try simp only [castL_self] at h2
        try simp only [Int.toNat_natCast] at h2
        try simp only [Int.toNat_zero] at h2
        have hne2 : ¬twoE p q = 0 := h2
        have hm0 : meetL p q = [] := by unfold meetL; rw [if_neg hne2]
        have hj0 : joinL p q = [] := by unfold joinL; rw [if_neg hne2]
        have hf0 : finerV p q = false := by unfold finerV; rw [if_neg hne2]
        refine AWPD.skip ?_
        refine hK64 _ _ ?_
        clear hK64
        refine AWPD.seq fun K74 hK74 => ?_
        -- region 21
        try rw [hmi]
        try rw [hji]
        refine AWPD.keep [0, 1, 7, 8, 13, 14, 15, 16, 17] rfl ?_
        refine AWPD.region tabOK rfl ?_
        refine Exists.intro _ (Exists.intro _ (And.intro (StepD.call (meet_fn _ _) rfl rfl rfl) (And.intro rfl (And.intro trivial ?_))))
        refine hK74 _ _ ?_
        clear hK74
        refine AWPD.seq fun K75 hK75 => ?_
        -- region 22
        try rw [hmi]
        try rw [hji]
        try rw [hm0]
        refine AWPD.keep [0, 1, 7, 8, 11, 12, 13, 14, 15, 16, 17] rfl ?_
        refine AWPD.region tabOK rfl ?_
        refine Exists.intro _ (Exists.intro _ (And.intro (StepD.callG errG_stays rfl hG0 (error_fn _ _) rfl rfl rfl) (And.intro rfl (And.intro trivial ?_))))
        repeat refine And.intro (by first | exact fun h => h | exact fun _ => rfl | (intro h; rw [h]; rfl) | omega | (intros; (try dsimp only [Ty.T, Ty.size]); (try simp only [castL_self, Int.toNat_natCast, Int.toNat_zero, Int.toNat_one, true_and, List.length_append, List.length_set, List.length_drop, List.length_take, List.length_replicate, List.length_cons, List.length_nil, Nat.zero_add, Nat.mul_one]); omega) | decide | (intros; simp_all; done) | (intros; simp_all; omega)) ?_
        refine Exists.intro _ (Exists.intro _ (And.intro (fun hg => StepD.call (by first | exact ints_fn _ _ (by omega) | exact LiftsD.fit (ints_fn [] [] (by decide)) ⟨⟨rfl, rfl⟩, ⟨rfl, by decide⟩, trivial⟩) rfl rfl rfl) (And.intro (fun hf => rfl) (And.intro rfl (And.intro trivial ?_)))))
        repeat refine And.intro (by first | exact fun h => h | exact fun _ => rfl | (intro h; rw [h]; rfl) | omega | (intros; (try dsimp only [Ty.T, Ty.size]); (try simp only [castL_self, Int.toNat_natCast, Int.toNat_zero, Int.toNat_one, true_and, List.length_append, List.length_set, List.length_drop, List.length_take, List.length_replicate, List.length_cons, List.length_nil, Nat.zero_add, Nat.mul_one]); omega) | decide | (intros; simp_all; done) | (intros; simp_all; omega)) ?_
        refine hK75 _ _ ?_
        clear hK75
        refine AWPD.seq fun K76 hK76 => ?_
        -- region 23
        refine AWPD.keep [0, 1, 7, 8, 13, 14, 16, 17, 18] rfl ?_
        refine AWPD.region tabOK rfl ?_
        refine Exists.intro _ (Exists.intro _ (And.intro (StepD.call (join_fn _ _) rfl rfl rfl) (And.intro rfl (And.intro trivial ?_))))
        refine hK76 _ _ ?_
        clear hK76
        refine AWPD.seq fun K77 hK77 => ?_
        -- region 24
        try rw [hj0]
        refine AWPD.keep [0, 1, 7, 8, 11, 12, 13, 14, 16, 17, 18] rfl ?_
        refine AWPD.region tabOK rfl ?_
        refine Exists.intro _ (Exists.intro _ (And.intro (StepD.callG errG_stays rfl hG0 (error_fn _ _) rfl rfl rfl) (And.intro rfl (And.intro trivial ?_))))
        repeat refine And.intro (by first | exact fun h => h | exact fun _ => rfl | (intro h; rw [h]; rfl) | omega | (intros; (try dsimp only [Ty.T, Ty.size]); (try simp only [castL_self, Int.toNat_natCast, Int.toNat_zero, Int.toNat_one, true_and, List.length_append, List.length_set, List.length_drop, List.length_take, List.length_replicate, List.length_cons, List.length_nil, Nat.zero_add, Nat.mul_one]); omega) | decide | (intros; simp_all; done) | (intros; simp_all; omega)) ?_
        refine Exists.intro _ (Exists.intro _ (And.intro (fun hg => StepD.call (by first | exact ints_fn _ _ (by omega) | exact LiftsD.fit (ints_fn [] [] (by decide)) ⟨⟨rfl, rfl⟩, ⟨rfl, by decide⟩, trivial⟩) rfl rfl rfl) (And.intro (fun hf => rfl) (And.intro rfl (And.intro trivial ?_)))))
        repeat refine And.intro (by first | exact fun h => h | exact fun _ => rfl | (intro h; rw [h]; rfl) | omega | (intros; (try dsimp only [Ty.T, Ty.size]); (try simp only [castL_self, Int.toNat_natCast, Int.toNat_zero, Int.toNat_one, true_and, List.length_append, List.length_set, List.length_drop, List.length_take, List.length_replicate, List.length_cons, List.length_nil, Nat.zero_add, Nat.mul_one]); omega) | decide | (intros; simp_all; done) | (intros; simp_all; omega)) ?_
        refine hK77 _ _ ?_
        clear hK77
        refine AWPD.seq fun K78 hK78 => ?_
        -- region 25
        refine AWPD.keep [0, 1, 7, 8, 13, 14, 17, 18, 19] rfl ?_
        refine AWPD.region tabOK rfl ?_
        refine Exists.intro _ (Exists.intro _ (And.intro (StepD.call (finer_fn _ _) rfl rfl rfl) (And.intro rfl (And.intro trivial ?_))))
        refine hK78 _ _ ?_
        clear hK78
        refine AWPD.seq fun K79 hK79 => ?_
        -- region 26
        refine AWPD.keep [7, 8, 12, 13, 14, 17, 18, 19, 20] rfl ?_
        refine AWPD.region tabOK rfl ?_
        repeat refine And.intro (by first | exact fun h => h | exact fun _ => rfl | (intro h; rw [h]; rfl) | omega | (intros; (try dsimp only [Ty.T, Ty.size]); (try simp only [castL_self, Int.toNat_natCast, Int.toNat_zero, Int.toNat_one, true_and, List.length_append, List.length_set, List.length_drop, List.length_take, List.length_replicate, List.length_cons, List.length_nil, Nat.zero_add, Nat.mul_one]); omega) | decide | (intros; simp_all; done) | (intros; simp_all; omega)) ?_
        refine Exists.intro _ (Exists.intro _ (And.intro (fun hg => StepD.callG errG_stays rfl hG0 (error_fn _ _) rfl rfl rfl) (And.intro (fun hf => rfl) (And.intro rfl (And.intro trivial ?_)))))
        repeat refine And.intro (by first | exact fun h => h | exact fun _ => rfl | (intro h; rw [h]; rfl) | omega | (intros; (try dsimp only [Ty.T, Ty.size]); (try simp only [castL_self, Int.toNat_natCast, Int.toNat_zero, Int.toNat_one, true_and, List.length_append, List.length_set, List.length_drop, List.length_take, List.length_replicate, List.length_cons, List.length_nil, Nat.zero_add, Nat.mul_one]); omega) | decide | (intros; simp_all; done) | (intros; simp_all; omega)) ?_
        refine hK79 _ _ ?_
        clear hK79
        refine AWPD.ret (And.intro (.inl rfl) ?_)
        -- result 5
        refine RetD.one ?_
        refine fitB rfl ?_
        simp [*]
    · try dsimp only [Ty.T] at h1
      try simp only [castL_self] at h1
      try simp only [Int.toNat_natCast] at h1
      try simp only [Int.toNat_zero] at h1
      have hl12 : l.length ≤ 12 := by omega
      have hol := ofL_len hl12
      have hoe : ofE l = 0 := by unfold ofE; rw [if_neg (by omega)]
      -- region 11
      refine AWPD.keep [0, 1, 2, 7, 8, 13] rfl ?_
      refine AWPD.region tabOK rfl ?_
      refine Exists.intro _ (Exists.intro _ (And.intro (StepD.call (rof_fn _ (by omega)) rfl rfl rfl) (And.intro rfl (And.intro trivial ?_))))
      refine hK57 _ _ ?_
      clear hK57
      refine AWPD.seq fun K80 hK80 => ?_
      -- region 12
      refine AWPD.keep [0, 1, 2, 7, 8, 10, 13] rfl ?_
      refine AWPD.region tabOK rfl ?_
      refine Exists.intro _ (Exists.intro _ (And.intro (StepD.call (of_fn _) rfl rfl rfl) (And.intro rfl (And.intro trivial ?_))))
      refine hK80 _ _ ?_
      clear hK80
      refine AWPD.seq fun K81 hK81 => ?_
      -- region 13
      try rw [ho0]
      refine AWPD.keep [0, 1, 7, 8, 10, 11, 12, 13] rfl ?_
      refine AWPD.region tabOK rfl ?_
      refine Exists.intro _ (Exists.intro _ (And.intro (StepD.callG errG_stays rfl hG0 (error_fn _ _) rfl rfl rfl) (And.intro rfl (And.intro trivial ?_))))
      repeat refine And.intro (by first | exact fun h => h | exact fun _ => rfl | (intro h; rw [h]; rfl) | omega | (intros; (try dsimp only [Ty.T, Ty.size]); (try simp only [castL_self, Int.toNat_natCast, Int.toNat_zero, Int.toNat_one, true_and, List.length_append, List.length_set, List.length_drop, List.length_take, List.length_replicate, List.length_cons, List.length_nil, Nat.zero_add, Nat.mul_one]); omega) | decide | (intros; simp_all; done) | (intros; simp_all; omega)) ?_
      refine Exists.intro _ (Exists.intro _ (And.intro (fun hg => StepD.call (by first | exact ints_fn _ _ (by omega) | exact LiftsD.fit (ints_fn [] [] (by decide)) ⟨⟨rfl, rfl⟩, ⟨rfl, by decide⟩, trivial⟩) rfl rfl rfl) (And.intro (fun hf => rfl) (And.intro rfl (And.intro trivial ?_)))))
      repeat refine And.intro (by first | exact fun h => h | exact fun _ => rfl | (intro h; rw [h]; rfl) | omega | (intros; (try dsimp only [Ty.T, Ty.size]); (try simp only [castL_self, Int.toNat_natCast, Int.toNat_zero, Int.toNat_one, true_and, List.length_append, List.length_set, List.length_drop, List.length_take, List.length_replicate, List.length_cons, List.length_nil, Nat.zero_add, Nat.mul_one]); omega) | decide | (intros; simp_all; done) | (intros; simp_all; omega)) ?_
      refine hK81 _ _ ?_
      clear hK81
      refine AWPD.seq fun K82 hK82 => ?_
      -- region 14
      refine AWPD.keep [0, 1, 8, 13, 14] rfl ?_
      refine AWPD.region tabOK rfl ?_
      refine Exists.intro _ (Exists.intro _ (And.intro (StepD.call (rtwo_fn _ _) rfl rfl rfl) (And.intro rfl (And.intro trivial ?_))))
      refine hK82 _ _ ?_
      clear hK82
      refine AWPD.seq fun K83 hK83 => ?_
      -- region 15
      refine AWPD.keep [0, 1, 7, 8, 13, 14] rfl ?_
      refine AWPD.region tabOK rfl ?_
      refine hK83 _ _ ?_
      clear hK83
      refine AWPD.seq fun K84 hK84 => ?_
      -- region 16
      refine AWPD.keep [0, 1, 7, 8, 13, 14, 15, 16] rfl ?_
      refine AWPD.region tabOK rfl ?_
      refine hK84 _ _ ?_
      clear hK84
      refine AWPD.seq fun K85 hK85 => ?_
      refine AWPD.seq fun K86 hK86 => ?_
      -- region 17
      refine AWPD.keep [0, 1, 7, 8, 13, 14, 15, 16, 17] rfl ?_
      refine AWPD.region tabOK rfl ?_
      refine hK86 _ _ ?_
      clear hK86
      first | refine AWPD.condP rfl (fun h2 => ?_) (fun h2 => ?_) | refine AWPD.condN rfl (fun h2 => ?_) (fun h2 => ?_) | refine AWPD.condAP rfl (fun h2 => ?_) (fun h2 => ?_) | refine AWPD.condOP rfl (fun h2 => ?_) (fun h2 => ?_) | refine AWPD.condONN rfl (fun h2 => ?_) (fun h2 => ?_) | refine AWPD.condOPN rfl (fun h2 => ?_) (fun h2 => ?_) | refine AWPD.condA rfl (fun h2 => ?_) (fun h2 => ?_) | refine AWPD.condO rfl (fun h2 => ?_) (fun h2 => ?_) | refine AWPD.cond rfl (fun h2 => ?_) (fun h2 => ?_)
      · try dsimp only [Ty.T] at h2
        try simp only [castL_self] at h2
        try simp only [Int.toNat_natCast] at h2
        try simp only [Int.toNat_zero] at h2
        try (exact absurd (twoE_ok h2).1 hnp; done)
        all_goals
          have he2 : twoE p q = 0 := h2
          obtain ⟨hp2, hq2, hpq2, hl2⟩ := twoE_ok he2
          obtain ⟨hm12, hj12⟩ := two_len he2
          have hmi := meet_is he2
          have hji := join_is he2
          refine AWPD.seq fun K87 hK87 => ?_
          -- region 18
          refine AWPD.keep [0, 1, 7, 8, 13, 14] rfl ?_
          refine AWPD.region tabOK rfl ?_
          refine Exists.intro _ (Exists.intro _ (And.intro (StepD.call (rmeet_fn _ _ _ (by omega) (by omega)) rfl rfl rfl) (And.intro rfl (And.intro trivial ?_))))
          refine hK87 _ _ ?_
          clear hK87
          refine AWPD.seq fun K88 hK88 => ?_
          -- region 19
          refine AWPD.keep [0, 1, 7, 8, 13, 14, 15] rfl ?_
          refine AWPD.region tabOK rfl ?_
          refine Exists.intro _ (Exists.intro _ (And.intro (StepD.call (rmeet_fn _ _ _ (by omega) (by omega)) rfl rfl rfl) (And.intro rfl (And.intro trivial ?_))))
          refine hK88 _ _ ?_
          clear hK88
          -- region 20
          refine AWPD.keep [0, 1, 7, 8, 13, 14, 15, 16] rfl ?_
          refine AWPD.region tabOK rfl ?_
          refine Exists.intro _ (Exists.intro _ (And.intro (StepD.call (rfiner_fn _ _ (by assumption)) rfl rfl rfl) (And.intro rfl (And.intro trivial ?_))))
          refine hK85 _ _ ?_
          clear hK85
          refine AWPD.seq fun K89 hK89 => ?_
          -- region 21
          try rw [hmi]
          try rw [hji]
          refine AWPD.keep [0, 1, 7, 8, 13, 14, 15, 16, 17] rfl ?_
          refine AWPD.region tabOK rfl ?_
          refine Exists.intro _ (Exists.intro _ (And.intro (StepD.call (meet_fn _ _) rfl rfl rfl) (And.intro rfl (And.intro trivial ?_))))
          refine hK89 _ _ ?_
          clear hK89
          refine AWPD.seq fun K90 hK90 => ?_
          -- region 22
          try rw [hmi]
          try rw [hji]
          try rw [hm0]
          refine AWPD.keep [0, 1, 7, 8, 11, 12, 13, 14, 15, 16, 17] rfl ?_
          refine AWPD.region tabOK rfl ?_
          refine Exists.intro _ (Exists.intro _ (And.intro (StepD.callG errG_stays rfl hG0 (error_fn _ _) rfl rfl rfl) (And.intro rfl (And.intro trivial ?_))))
          repeat refine And.intro (by first | exact fun h => h | exact fun _ => rfl | (intro h; rw [h]; rfl) | omega | (intros; (try dsimp only [Ty.T, Ty.size]); (try simp only [castL_self, Int.toNat_natCast, Int.toNat_zero, Int.toNat_one, true_and, List.length_append, List.length_set, List.length_drop, List.length_take, List.length_replicate, List.length_cons, List.length_nil, Nat.zero_add, Nat.mul_one]); omega) | decide | (intros; simp_all; done) | (intros; simp_all; omega)) ?_
          refine Exists.intro _ (Exists.intro _ (And.intro (fun hg => StepD.call (by first | exact ints_fn _ _ (by omega) | exact LiftsD.fit (ints_fn [] [] (by decide)) ⟨⟨rfl, rfl⟩, ⟨rfl, by decide⟩, trivial⟩) rfl rfl rfl) (And.intro (fun hf => rfl) (And.intro rfl (And.intro trivial ?_)))))
          repeat refine And.intro (by first | exact fun h => h | exact fun _ => rfl | (intro h; rw [h]; rfl) | omega | (intros; (try dsimp only [Ty.T, Ty.size]); (try simp only [castL_self, Int.toNat_natCast, Int.toNat_zero, Int.toNat_one, true_and, List.length_append, List.length_set, List.length_drop, List.length_take, List.length_replicate, List.length_cons, List.length_nil, Nat.zero_add, Nat.mul_one]); omega) | decide | (intros; simp_all; done) | (intros; simp_all; omega)) ?_
          refine hK90 _ _ ?_
          clear hK90
          refine AWPD.seq fun K91 hK91 => ?_
          -- region 23
          refine AWPD.keep [0, 1, 7, 8, 13, 14, 16, 17, 18] rfl ?_
          refine AWPD.region tabOK rfl ?_
          refine Exists.intro _ (Exists.intro _ (And.intro (StepD.call (join_fn _ _) rfl rfl rfl) (And.intro rfl (And.intro trivial ?_))))
          refine hK91 _ _ ?_
          clear hK91
          refine AWPD.seq fun K92 hK92 => ?_
          -- region 24
          try rw [hj0]
          refine AWPD.keep [0, 1, 7, 8, 11, 12, 13, 14, 16, 17, 18] rfl ?_
          refine AWPD.region tabOK rfl ?_
          refine Exists.intro _ (Exists.intro _ (And.intro (StepD.callG errG_stays rfl hG0 (error_fn _ _) rfl rfl rfl) (And.intro rfl (And.intro trivial ?_))))
          repeat refine And.intro (by first | exact fun h => h | exact fun _ => rfl | (intro h; rw [h]; rfl) | omega | (intros; (try dsimp only [Ty.T, Ty.size]); (try simp only [castL_self, Int.toNat_natCast, Int.toNat_zero, Int.toNat_one, true_and, List.length_append, List.length_set, List.length_drop, List.length_take, List.length_replicate, List.length_cons, List.length_nil, Nat.zero_add, Nat.mul_one]); omega) | decide | (intros; simp_all; done) | (intros; simp_all; omega)) ?_
          refine Exists.intro _ (Exists.intro _ (And.intro (fun hg => StepD.call (by first | exact ints_fn _ _ (by omega) | exact LiftsD.fit (ints_fn [] [] (by decide)) ⟨⟨rfl, rfl⟩, ⟨rfl, by decide⟩, trivial⟩) rfl rfl rfl) (And.intro (fun hf => rfl) (And.intro rfl (And.intro trivial ?_)))))
          repeat refine And.intro (by first | exact fun h => h | exact fun _ => rfl | (intro h; rw [h]; rfl) | omega | (intros; (try dsimp only [Ty.T, Ty.size]); (try simp only [castL_self, Int.toNat_natCast, Int.toNat_zero, Int.toNat_one, true_and, List.length_append, List.length_set, List.length_drop, List.length_take, List.length_replicate, List.length_cons, List.length_nil, Nat.zero_add, Nat.mul_one]); omega) | decide | (intros; simp_all; done) | (intros; simp_all; omega)) ?_
          refine hK92 _ _ ?_
          clear hK92
          refine AWPD.seq fun K93 hK93 => ?_
          -- region 25
          refine AWPD.keep [0, 1, 7, 8, 13, 14, 17, 18, 19] rfl ?_
          refine AWPD.region tabOK rfl ?_
          refine Exists.intro _ (Exists.intro _ (And.intro (StepD.call (finer_fn _ _) rfl rfl rfl) (And.intro rfl (And.intro trivial ?_))))
          refine hK93 _ _ ?_
          clear hK93
          refine AWPD.seq fun K94 hK94 => ?_
          -- region 26
          refine AWPD.keep [7, 8, 12, 13, 14, 17, 18, 19, 20] rfl ?_
          refine AWPD.region tabOK rfl ?_
          repeat refine And.intro (by first | exact fun h => h | exact fun _ => rfl | (intro h; rw [h]; rfl) | omega | (intros; (try dsimp only [Ty.T, Ty.size]); (try simp only [castL_self, Int.toNat_natCast, Int.toNat_zero, Int.toNat_one, true_and, List.length_append, List.length_set, List.length_drop, List.length_take, List.length_replicate, List.length_cons, List.length_nil, Nat.zero_add, Nat.mul_one]); omega) | decide | (intros; simp_all; done) | (intros; simp_all; omega)) ?_
          refine Exists.intro _ (Exists.intro _ (And.intro (fun hg => StepD.callG errG_stays rfl hG0 (error_fn _ _) rfl rfl rfl) (And.intro (fun hf => rfl) (And.intro rfl (And.intro trivial ?_)))))
          repeat refine And.intro (by first | exact fun h => h | exact fun _ => rfl | (intro h; rw [h]; rfl) | omega | (intros; (try dsimp only [Ty.T, Ty.size]); (try simp only [castL_self, Int.toNat_natCast, Int.toNat_zero, Int.toNat_one, true_and, List.length_append, List.length_set, List.length_drop, List.length_take, List.length_replicate, List.length_cons, List.length_nil, Nat.zero_add, Nat.mul_one]); omega) | decide | (intros; simp_all; done) | (intros; simp_all; omega)) ?_
          refine hK94 _ _ ?_
          clear hK94
          refine AWPD.ret (And.intro (.inl rfl) ?_)
          -- result 6
          refine RetD.one ?_
          refine fitB rfl ?_
          simp [*]
      · try dsimp only [Ty.T] at h2
        try simp only [castL_self] at h2
        try simp only [Int.toNat_natCast] at h2
        try simp only [Int.toNat_zero] at h2
        have hne2 : ¬twoE p q = 0 := h2
        have hm0 : meetL p q = [] := by unfold meetL; rw [if_neg hne2]
        have hj0 : joinL p q = [] := by unfold joinL; rw [if_neg hne2]
        have hf0 : finerV p q = false := by unfold finerV; rw [if_neg hne2]
        refine AWPD.skip ?_
        refine hK85 _ _ ?_
        clear hK85
        refine AWPD.seq fun K95 hK95 => ?_
        -- region 21
        try rw [hmi]
        try rw [hji]
        refine AWPD.keep [0, 1, 7, 8, 13, 14, 15, 16, 17] rfl ?_
        refine AWPD.region tabOK rfl ?_
        refine Exists.intro _ (Exists.intro _ (And.intro (StepD.call (meet_fn _ _) rfl rfl rfl) (And.intro rfl (And.intro trivial ?_))))
        refine hK95 _ _ ?_
        clear hK95
        refine AWPD.seq fun K96 hK96 => ?_
        -- region 22
        try rw [hmi]
        try rw [hji]
        try rw [hm0]
        refine AWPD.keep [0, 1, 7, 8, 11, 12, 13, 14, 15, 16, 17] rfl ?_
        refine AWPD.region tabOK rfl ?_
        refine Exists.intro _ (Exists.intro _ (And.intro (StepD.callG errG_stays rfl hG0 (error_fn _ _) rfl rfl rfl) (And.intro rfl (And.intro trivial ?_))))
        repeat refine And.intro (by first | exact fun h => h | exact fun _ => rfl | (intro h; rw [h]; rfl) | omega | (intros; (try dsimp only [Ty.T, Ty.size]); (try simp only [castL_self, Int.toNat_natCast, Int.toNat_zero, Int.toNat_one, true_and, List.length_append, List.length_set, List.length_drop, List.length_take, List.length_replicate, List.length_cons, List.length_nil, Nat.zero_add, Nat.mul_one]); omega) | decide | (intros; simp_all; done) | (intros; simp_all; omega)) ?_
        refine Exists.intro _ (Exists.intro _ (And.intro (fun hg => StepD.call (by first | exact ints_fn _ _ (by omega) | exact LiftsD.fit (ints_fn [] [] (by decide)) ⟨⟨rfl, rfl⟩, ⟨rfl, by decide⟩, trivial⟩) rfl rfl rfl) (And.intro (fun hf => rfl) (And.intro rfl (And.intro trivial ?_)))))
        repeat refine And.intro (by first | exact fun h => h | exact fun _ => rfl | (intro h; rw [h]; rfl) | omega | (intros; (try dsimp only [Ty.T, Ty.size]); (try simp only [castL_self, Int.toNat_natCast, Int.toNat_zero, Int.toNat_one, true_and, List.length_append, List.length_set, List.length_drop, List.length_take, List.length_replicate, List.length_cons, List.length_nil, Nat.zero_add, Nat.mul_one]); omega) | decide | (intros; simp_all; done) | (intros; simp_all; omega)) ?_
        refine hK96 _ _ ?_
        clear hK96
        refine AWPD.seq fun K97 hK97 => ?_
        -- region 23
        refine AWPD.keep [0, 1, 7, 8, 13, 14, 16, 17, 18] rfl ?_
        refine AWPD.region tabOK rfl ?_
        refine Exists.intro _ (Exists.intro _ (And.intro (StepD.call (join_fn _ _) rfl rfl rfl) (And.intro rfl (And.intro trivial ?_))))
        refine hK97 _ _ ?_
        clear hK97
        refine AWPD.seq fun K98 hK98 => ?_
        -- region 24
        try rw [hj0]
        refine AWPD.keep [0, 1, 7, 8, 11, 12, 13, 14, 16, 17, 18] rfl ?_
        refine AWPD.region tabOK rfl ?_
        refine Exists.intro _ (Exists.intro _ (And.intro (StepD.callG errG_stays rfl hG0 (error_fn _ _) rfl rfl rfl) (And.intro rfl (And.intro trivial ?_))))
        repeat refine And.intro (by first | exact fun h => h | exact fun _ => rfl | (intro h; rw [h]; rfl) | omega | (intros; (try dsimp only [Ty.T, Ty.size]); (try simp only [castL_self, Int.toNat_natCast, Int.toNat_zero, Int.toNat_one, true_and, List.length_append, List.length_set, List.length_drop, List.length_take, List.length_replicate, List.length_cons, List.length_nil, Nat.zero_add, Nat.mul_one]); omega) | decide | (intros; simp_all; done) | (intros; simp_all; omega)) ?_
        refine Exists.intro _ (Exists.intro _ (And.intro (fun hg => StepD.call (by first | exact ints_fn _ _ (by omega) | exact LiftsD.fit (ints_fn [] [] (by decide)) ⟨⟨rfl, rfl⟩, ⟨rfl, by decide⟩, trivial⟩) rfl rfl rfl) (And.intro (fun hf => rfl) (And.intro rfl (And.intro trivial ?_)))))
        repeat refine And.intro (by first | exact fun h => h | exact fun _ => rfl | (intro h; rw [h]; rfl) | omega | (intros; (try dsimp only [Ty.T, Ty.size]); (try simp only [castL_self, Int.toNat_natCast, Int.toNat_zero, Int.toNat_one, true_and, List.length_append, List.length_set, List.length_drop, List.length_take, List.length_replicate, List.length_cons, List.length_nil, Nat.zero_add, Nat.mul_one]); omega) | decide | (intros; simp_all; done) | (intros; simp_all; omega)) ?_
        refine hK98 _ _ ?_
        clear hK98
        refine AWPD.seq fun K99 hK99 => ?_
        -- region 25
        refine AWPD.keep [0, 1, 7, 8, 13, 14, 17, 18, 19] rfl ?_
        refine AWPD.region tabOK rfl ?_
        refine Exists.intro _ (Exists.intro _ (And.intro (StepD.call (finer_fn _ _) rfl rfl rfl) (And.intro rfl (And.intro trivial ?_))))
        refine hK99 _ _ ?_
        clear hK99
        refine AWPD.seq fun K100 hK100 => ?_
        -- region 26
        refine AWPD.keep [7, 8, 12, 13, 14, 17, 18, 19, 20] rfl ?_
        refine AWPD.region tabOK rfl ?_
        repeat refine And.intro (by first | exact fun h => h | exact fun _ => rfl | (intro h; rw [h]; rfl) | omega | (intros; (try dsimp only [Ty.T, Ty.size]); (try simp only [castL_self, Int.toNat_natCast, Int.toNat_zero, Int.toNat_one, true_and, List.length_append, List.length_set, List.length_drop, List.length_take, List.length_replicate, List.length_cons, List.length_nil, Nat.zero_add, Nat.mul_one]); omega) | decide | (intros; simp_all; done) | (intros; simp_all; omega)) ?_
        refine Exists.intro _ (Exists.intro _ (And.intro (fun hg => StepD.callG errG_stays rfl hG0 (error_fn _ _) rfl rfl rfl) (And.intro (fun hf => rfl) (And.intro rfl (And.intro trivial ?_)))))
        repeat refine And.intro (by first | exact fun h => h | exact fun _ => rfl | (intro h; rw [h]; rfl) | omega | (intros; (try dsimp only [Ty.T, Ty.size]); (try simp only [castL_self, Int.toNat_natCast, Int.toNat_zero, Int.toNat_one, true_and, List.length_append, List.length_set, List.length_drop, List.length_take, List.length_replicate, List.length_cons, List.length_nil, Nat.zero_add, Nat.mul_one]); omega) | decide | (intros; simp_all; done) | (intros; simp_all; omega)) ?_
        refine hK100 _ _ ?_
        clear hK100
        refine AWPD.ret (And.intro (.inl rfl) ?_)
        -- result 7
        refine RetD.one ?_
        refine fitB rfl ?_
        simp [*]
end Go.Proofs.YtkdihpajgmiolaaDoor
