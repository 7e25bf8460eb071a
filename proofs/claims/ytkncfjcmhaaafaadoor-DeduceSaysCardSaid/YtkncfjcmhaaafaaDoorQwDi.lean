/-
  WALK of the law DeduceSays. Laid by a program of mine out of the operations, with the loops and results told by hand.
-/
import Derived.Test.YtkncfjcmhaaafaaDoorQwDh
namespace Go.Proofs.YtkncfjcmhaaafaaDoor
open Go Go.Qw
set_option maxRecDepth 10000
set_option linter.unusedSimpArgs false
set_option linter.unusedVariables false
set_option linter.unusedSectionVars false


theorem leftV_len {l : List (Int × Int)} {s : Int} : (leftV l s).length ≤ l.length := by
  unfold leftV
  split
  · exact Nat.le_trans (colV_len _ _) (leftP_len l s l.length)
  · simp
theorem blindL_some {l : List (Int × Int)} (he : wldE l = 0) (h : 0 < (misV l).length) : blindL l = [((misV l).getD 0 (0, 0)).1, ((misV l).getD 0 (0, 0)).2] := by
  unfold blindL
  rw [if_pos he]
  cases hm : misV l with
  | nil => rw [hm] at h; simp at h
  | cons q r => rfl
theorem blindB_ok {l : List (Int × Int)} (he : wldE l = 0) : blindB l = decide ((misV l).length = 0) := by
  unfold blindB
  rw [decide_eq_true he, Bool.true_and]
  exact decide_eq_decide.2 List.length_eq_zero_iff.symm

theorem deduceSays_fn (l : List (Int × Int)) (s : Int) : LiftsG Tryd.prog errG 3 [.sl .two l, .i s] (.b true) := by
  have hbl := blindL_len l
  refine LiftsG.of_body 112 [.tmp 4] Tryd.func3 rfl Tryd.ntmps3 (by kernel_rfl) rfl rfl fun w0 X0 hG0 => ?_
  refine AWPD.seq fun K1 hK1 => ?_
  -- region 0
  refine AWPD.keep [0, 1] rfl ?_
  refine AWPD.region tabOK rfl ?_
  refine hK1 _ _ ?_
  clear hK1
  refine AWPD.seq fun K2 hK2 => ?_
  -- region 1
  refine AWPD.keep [0, 1] rfl ?_
  refine AWPD.region tabOK rfl ?_
  refine Exists.intro _ (Exists.intro _ (And.intro (StepD.call (worlds_fn _) rfl rfl rfl) (And.intro rfl (And.intro trivial ?_))))
  refine hK2 _ _ ?_
  clear hK2
  refine AWPD.seq fun K3 hK3 => ?_
  -- region 2
  refine AWPD.keep [0, 1, 5] rfl ?_
  refine AWPD.region tabOK rfl ?_
  refine Exists.intro _ (Exists.intro _ (And.intro (StepD.call (dcheck_fn _) rfl rfl rfl) (And.intro rfl (And.intro trivial ?_))))
  refine Exists.intro _ (Exists.intro _ (And.intro (StepD.callG errG_stays rfl hG0 (error_fn _ _) rfl rfl rfl) (And.intro rfl (And.intro trivial ?_))))
  refine hK3 _ _ ?_
  clear hK3
  refine AWPD.seq fun K4 hK4 => ?_
  -- region 3
  refine AWPD.keep [0, 1, 5, 6] rfl ?_
  refine AWPD.region tabOK rfl ?_
  refine hK4 _ _ ?_
  clear hK4
  refine AWPD.seq fun K5 hK5 => ?_
  -- region 4
  refine AWPD.keep [0, 1, 5, 6, 7, 8] rfl ?_
  refine AWPD.region tabOK rfl ?_
  refine hK5 _ _ ?_
  clear hK5
  refine AWPD.seq fun K6 hK6 => ?_
  -- region 5
  refine AWPD.keep [0, 1, 5, 6, 7, 8, 9] rfl ?_
  refine AWPD.region tabOK rfl ?_
  refine hK6 _ _ ?_
  clear hK6
  refine AWPD.seq fun K7 hK7 => ?_
  refine AWPD.seq fun K8 hK8 => ?_
  -- region 6
  refine AWPD.keep [0, 1, 5, 6, 7, 8, 9, 10] rfl ?_
  refine AWPD.region tabOK rfl ?_
  refine hK8 _ _ ?_
  clear hK8
  first | refine AWPD.condP rfl (fun h0 => ?_) (fun h0 => ?_) | refine AWPD.condN rfl (fun h0 => ?_) (fun h0 => ?_) | refine AWPD.condAP rfl (fun h0 => ?_) (fun h0 => ?_) | refine AWPD.condOP rfl (fun h0 => ?_) (fun h0 => ?_) | refine AWPD.condONN rfl (fun h0 => ?_) (fun h0 => ?_) | refine AWPD.condOPN rfl (fun h0 => ?_) (fun h0 => ?_) | refine AWPD.condA rfl (fun h0 => ?_) (fun h0 => ?_) | refine AWPD.condO rfl (fun h0 => ?_) (fun h0 => ?_) | refine AWPD.cond rfl (fun h0 => ?_) (fun h0 => ?_)
  · try dsimp only [Ty.T] at h0
    try simp only [castL_self] at h0
    try simp only [Int.toNat_natCast] at h0
    try simp only [Int.toNat_zero] at h0
    have he : wldE l = 0 := h0
    have gl := (wld_ok he).1
    have hlv := leftV_len (l := l) (s := s)
    have hmb := misV_b gl
    have hB := blindB_ok he
    refine AWPD.seq fun K9 hK9 => ?_
    -- region 7
    refine AWPD.keep [0, 1, 5, 6, 8, 10] rfl ?_
    refine AWPD.region tabOK rfl ?_
    refine Exists.intro _ (Exists.intro _ (And.intro (StepD.call (rleft_fn _ _ (by assumption)) rfl rfl rfl) (And.intro rfl (And.intro trivial ?_))))
    refine hK9 _ _ ?_
    clear hK9
    refine AWPD.seq fun K10 hK10 => ?_
    -- region 8
    refine AWPD.keep [0, 1, 5, 6, 7, 8, 10] rfl ?_
    refine AWPD.region tabOK rfl ?_
    refine Exists.intro _ (Exists.intro _ (And.intro (StepD.call (rmis_fn _ (by assumption)) rfl rfl rfl) (And.intro rfl (And.intro trivial ?_))))
    refine hK10 _ _ ?_
    clear hK10
    refine AWPD.seq fun K11 hK11 => ?_
    refine AWPD.seq fun K12 hK12 => ?_
    -- region 9
    refine AWPD.keep [0, 1, 5, 6, 7, 8, 9, 10] rfl ?_
    refine AWPD.region tabOK rfl ?_
    refine hK12 _ _ ?_
    clear hK12
    first | refine AWPD.condP rfl (fun h1 => ?_) (fun h1 => ?_) | refine AWPD.condN rfl (fun h1 => ?_) (fun h1 => ?_) | refine AWPD.condAP rfl (fun h1 => ?_) (fun h1 => ?_) | refine AWPD.condOP rfl (fun h1 => ?_) (fun h1 => ?_) | refine AWPD.condONN rfl (fun h1 => ?_) (fun h1 => ?_) | refine AWPD.condOPN rfl (fun h1 => ?_) (fun h1 => ?_) | refine AWPD.condA rfl (fun h1 => ?_) (fun h1 => ?_) | refine AWPD.condO rfl (fun h1 => ?_) (fun h1 => ?_) | refine AWPD.cond rfl (fun h1 => ?_) (fun h1 => ?_)
    · try dsimp only [Ty.T] at h1
      try simp only [castL_self] at h1
      try simp only [Int.toNat_natCast] at h1
      try simp only [Int.toNat_zero] at h1
      have hmp : 0 < (misV l).length := by omega
      have hBL := blindL_some he hmp
      -- region 10
      refine AWPD.keep [0, 1, 5, 6, 7, 9, 10] rfl ?_
      refine AWPD.draw tabOK [] rfl (by kernel_rfl) ?_
      repeat refine And.intro (by first | exact fun h => h | exact fun _ => rfl | (intro h; rw [h]; rfl) | omega | (intros; (try dsimp only [Ty.T, Ty.size]); (try simp only [castL_self, Int.toNat_natCast, Int.toNat_zero, Int.toNat_one, true_and, List.length_append, List.length_set, List.length_drop, List.length_take, List.length_replicate, List.length_cons, List.length_nil, Nat.zero_add, Nat.mul_one]); omega) | decide | (intros; simp_all; done) | (intros; simp_all; omega)) ?_
      refine hK11 _ _ ?_
      clear hK11
      refine AWPD.seq fun K13 hK13 => ?_
      -- region 11
      refine AWPD.keep [0, 1, 5, 6, 7, 8, 9, 10] rfl ?_
      refine AWPD.region tabOK rfl ?_
      repeat refine And.intro (by first | exact fun h => h | exact fun _ => rfl | (intro h; rw [h]; rfl) | omega | (intros; (try dsimp only [Ty.T, Ty.size]); (try simp only [castL_self, Int.toNat_natCast, Int.toNat_zero, Int.toNat_one, true_and, List.length_append, List.length_set, List.length_drop, List.length_take, List.length_replicate, List.length_cons, List.length_nil, Nat.zero_add, Nat.mul_one]); omega) | decide | (intros; simp_all; done) | (intros; simp_all; omega)) ?_
      refine hK13 _ _ ?_
      clear hK13
      first | refine AWPD.condP rfl (fun h2 => ?_) (fun h2 => ?_) | refine AWPD.condN rfl (fun h2 => ?_) (fun h2 => ?_) | refine AWPD.condAP rfl (fun h2 => ?_) (fun h2 => ?_) | refine AWPD.condOP rfl (fun h2 => ?_) (fun h2 => ?_) | refine AWPD.condONN rfl (fun h2 => ?_) (fun h2 => ?_) | refine AWPD.condOPN rfl (fun h2 => ?_) (fun h2 => ?_) | refine AWPD.condA rfl (fun h2 => ?_) (fun h2 => ?_) | refine AWPD.condO rfl (fun h2 => ?_) (fun h2 => ?_) | refine AWPD.cond rfl (fun h2 => ?_) (fun h2 => ?_)
      · try dsimp only [Ty.T] at h2
        try simp only [castL_self] at h2
        try simp only [Int.toNat_natCast] at h2
        try simp only [Int.toNat_zero] at h2
        have hE : mixE l = 4 := by unfold mixE; rw [if_pos he, if_pos (by omega)]
        have hV : mixV l = [] := by unfold mixV; rw [hE]; rfl
        -- region 12
        refine AWPD.keep [0, 1, 5, 6, 7, 8, 9] rfl ?_
        refine AWPD.region tabOK rfl ?_
        refine hK7 _ _ ?_
        clear hK7
        refine AWPD.seq fun K14 hK14 => ?_
        -- region 13
        refine AWPD.keep [0, 1, 5, 6, 7, 8, 9, 10] rfl ?_
        refine AWPD.region tabOK rfl ?_
        refine Exists.intro _ (Exists.intro _ (And.intro (StepD.call (left_fn _ _) rfl rfl rfl) (And.intro rfl (And.intro trivial ?_))))
        refine hK14 _ _ ?_
        clear hK14
        refine AWPD.seq fun K15 hK15 => ?_
        -- region 14
        try rw [hL0]
        refine AWPD.keep [0, 5, 6, 7, 8, 9, 10, 11, 12] rfl ?_
        refine AWPD.region tabOK rfl ?_
        refine Exists.intro _ (Exists.intro _ (And.intro (StepD.callG errG_stays rfl hG0 (error_fn _ _) rfl rfl rfl) (And.intro rfl (And.intro trivial ?_))))
        repeat refine And.intro (by first | exact fun h => h | exact fun _ => rfl | (intro h; rw [h]; rfl) | omega | (intros; (try dsimp only [Ty.T, Ty.size]); (try simp only [castL_self, Int.toNat_natCast, Int.toNat_zero, Int.toNat_one, true_and, List.length_append, List.length_set, List.length_drop, List.length_take, List.length_replicate, List.length_cons, List.length_nil, Nat.zero_add, Nat.mul_one]); omega) | decide | (intros; simp_all; done) | (intros; simp_all; omega)) ?_
        refine Exists.intro _ (Exists.intro _ (And.intro (fun hg => StepD.call (by first | exact ints_fn _ _ (by omega) | exact LiftsD.fit (ints_fn [] [] (by decide)) ⟨⟨rfl, rfl⟩, ⟨rfl, by decide⟩, trivial⟩ | exact LiftsD.fit (ints_fn _ [] (by omega)) ⟨⟨rfl, rfl⟩, ⟨rfl, by decide⟩, trivial⟩) rfl rfl rfl) (And.intro (fun hf => rfl) (And.intro rfl (And.intro trivial ?_)))))
        repeat refine And.intro (by first | exact fun h => h | exact fun _ => rfl | (intro h; rw [h]; rfl) | omega | (intros; (try dsimp only [Ty.T, Ty.size]); (try simp only [castL_self, Int.toNat_natCast, Int.toNat_zero, Int.toNat_one, true_and, List.length_append, List.length_set, List.length_drop, List.length_take, List.length_replicate, List.length_cons, List.length_nil, Nat.zero_add, Nat.mul_one]); omega) | decide | (intros; simp_all; done) | (intros; simp_all; omega)) ?_
        refine hK15 _ _ ?_
        clear hK15
        refine AWPD.seq fun K16 hK16 => ?_
        -- region 15
        refine AWPD.keep [0, 5, 6, 8, 9, 10, 13] rfl ?_
        refine AWPD.region tabOK rfl ?_
        refine Exists.intro _ (Exists.intro _ (And.intro (StepD.call (blind_fn _) rfl rfl rfl) (And.intro rfl (And.intro trivial ?_))))
        refine hK16 _ _ ?_
        clear hK16
        refine AWPD.seq fun K17 hK17 => ?_
        -- region 16
        rw [hB]
        refine AWPD.keep [0, 5, 6, 8, 9, 10, 11, 12, 13, 14] rfl ?_
        refine AWPD.region tabOK rfl ?_
        refine Exists.intro _ (Exists.intro _ (And.intro (StepD.callG errG_stays rfl hG0 (error_fn _ _) rfl rfl rfl) (And.intro rfl (And.intro trivial ?_))))
        repeat refine And.intro (by first | exact fun h => h | exact fun _ => rfl | (intro h; rw [h]; rfl) | omega | (intros; (try dsimp only [Ty.T, Ty.size]); (try simp only [castL_self, Int.toNat_natCast, Int.toNat_zero, Int.toNat_one, true_and, List.length_append, List.length_set, List.length_drop, List.length_take, List.length_replicate, List.length_cons, List.length_nil, Nat.zero_add, Nat.mul_one]); omega) | decide | (intros; simp_all; done) | (intros; simp_all; omega)) ?_
        refine Exists.intro _ (Exists.intro _ (And.intro (fun hg => StepD.call (by first | exact ints_fn (blindL l) _ (by omega) | exact LiftsD.fit (ints_fn (blindL l) [] (by omega)) ⟨⟨rfl, rfl⟩, ⟨rfl, by decide⟩, trivial⟩) rfl rfl rfl) (And.intro (fun hf => rfl) (And.intro rfl (And.intro trivial ?_)))))
        repeat refine And.intro (by first | exact fun h => h | exact fun _ => rfl | (intro h; rw [h]; rfl) | omega | (intros; (try dsimp only [Ty.T, Ty.size]); (try simp only [castL_self, Int.toNat_natCast, Int.toNat_zero, Int.toNat_one, true_and, List.length_append, List.length_set, List.length_drop, List.length_take, List.length_replicate, List.length_cons, List.length_nil, Nat.zero_add, Nat.mul_one]); omega) | decide | (intros; simp_all; done) | (intros; simp_all; omega)) ?_
        refine hK17 _ _ ?_
        clear hK17
        refine AWPD.seq fun K18 hK18 => ?_
        refine AWPD.seq fun K19 hK19 => ?_
        -- region 17
        refine AWPD.keep [0, 6, 9, 10, 13, 15] rfl ?_
        refine AWPD.region tabOK rfl ?_
        refine hK19 _ _ ?_
        clear hK19
        first | refine AWPD.condP rfl (fun h3 => ?_) (fun h3 => ?_) | refine AWPD.condN rfl (fun h3 => ?_) (fun h3 => ?_) | refine AWPD.condAP rfl (fun h3 => ?_) (fun h3 => ?_) | refine AWPD.condOP rfl (fun h3 => ?_) (fun h3 => ?_) | refine AWPD.condONN rfl (fun h3 => ?_) (fun h3 => ?_) | refine AWPD.condOPN rfl (fun h3 => ?_) (fun h3 => ?_) | refine AWPD.condA rfl (fun h3 => ?_) (fun h3 => ?_) | refine AWPD.condO rfl (fun h3 => ?_) (fun h3 => ?_) | refine AWPD.cond rfl (fun h3 => ?_) (fun h3 => ?_)
        · try dsimp only [Ty.T] at h3
          try simp only [castL_self] at h3
          try simp only [Int.toNat_natCast] at h3
          try simp only [Int.toNat_zero] at h3
          try (exact absurd he h3; done)
          all_goals
            -- region 18
            refine AWPD.keep [0, 6, 10, 13, 15] rfl ?_
            refine AWPD.region tabOK rfl ?_
            refine hK18 _ _ ?_
            clear hK18
            refine AWPD.seq fun K20 hK20 => ?_
            -- region 19
            refine AWPD.keep [0, 6, 9, 10, 13, 15] rfl ?_
            refine AWPD.region tabOK rfl ?_
            refine Exists.intro _ (Exists.intro _ (And.intro (StepD.call (mix_fn _) rfl rfl rfl) (And.intro rfl (And.intro trivial ?_))))
            refine hK20 _ _ ?_
            clear hK20
            refine AWPD.seq fun K21 hK21 => ?_
            -- region 20
            rw [hV, hBL]
            refine AWPD.keep [6, 9, 10, 12, 13, 15, 16] rfl ?_
            refine AWPD.region tabOK rfl ?_
            repeat refine And.intro (by first | exact fun h => h | exact fun _ => rfl | (intro h; rw [h]; rfl) | omega | (intros; (try dsimp only [Ty.T, Ty.size]); (try simp only [castL_self, Int.toNat_natCast, Int.toNat_zero, Int.toNat_one, true_and, List.length_append, List.length_set, List.length_drop, List.length_take, List.length_replicate, List.length_cons, List.length_nil, Nat.zero_add, Nat.mul_one]); omega) | decide | (intros; simp_all; done) | (intros; simp_all; omega)) ?_
            refine Exists.intro _ (Exists.intro _ (And.intro (fun hg => StepD.callG errG_stays rfl hG0 (error_fn _ _) rfl rfl rfl) (And.intro (fun hf => rfl) (And.intro rfl (And.intro trivial ?_)))))
            repeat refine And.intro (by first | exact fun h => h | exact fun _ => rfl | (intro h; rw [h]; rfl) | omega | (intros; (try dsimp only [Ty.T, Ty.size]); (try simp only [castL_self, Int.toNat_natCast, Int.toNat_zero, Int.toNat_one, true_and, List.length_append, List.length_set, List.length_drop, List.length_take, List.length_replicate, List.length_cons, List.length_nil, Nat.zero_add, Nat.mul_one]); omega) | decide | (intros; simp_all; done) | (intros; simp_all; omega)) ?_
            refine Exists.intro _ (Exists.intro _ (And.intro (fun hg => StepD.call (by first | exact twos_fn (misV l) (misV l) (by omega) | exact LiftsD.fit (twos_fn [] [] (by decide)) ⟨⟨rfl, rfl⟩, ⟨rfl, by decide⟩, trivial⟩) rfl rfl rfl) (And.intro (fun hf => rfl) (And.intro rfl (And.intro trivial ?_)))))
            repeat refine And.intro (by first | exact fun h => h | exact fun _ => rfl | (intro h; rw [h]; rfl) | omega | (intros; (try dsimp only [Ty.T, Ty.size]); (try simp only [castL_self, Int.toNat_natCast, Int.toNat_zero, Int.toNat_one, true_and, List.length_append, List.length_set, List.length_drop, List.length_take, List.length_replicate, List.length_cons, List.length_nil, Nat.zero_add, Nat.mul_one]); omega) | decide | (intros; simp_all; done) | (intros; simp_all; omega)) ?_
            refine hK21 _ _ ?_
            clear hK21
            refine AWPD.ret (And.intro (.inl rfl) ?_)
            -- result 0
            refine RetD.one ?_
            refine fitB rfl ?_
            rw [hE]
            first | (simp; done) | (simp [he]; done) | (simp [he, castL_self]; done)
        · try dsimp only [Ty.T] at h3
          try simp only [castL_self] at h3
          try simp only [Int.toNat_natCast] at h3
          try simp only [Int.toNat_zero] at h3
          try (first | exact absurd (show (4 : Int) ≠ 0 by decide) h3 | exact absurd he h3; done)
          all_goals
            refine AWPD.skip ?_
            refine hK18 _ _ ?_
            clear hK18
            refine AWPD.seq fun K22 hK22 => ?_
            -- region 19
            refine AWPD.keep [0, 6, 9, 10, 13, 15] rfl ?_
            refine AWPD.region tabOK rfl ?_
            refine Exists.intro _ (Exists.intro _ (And.intro (StepD.call (mix_fn _) rfl rfl rfl) (And.intro rfl (And.intro trivial ?_))))
            refine hK22 _ _ ?_
            clear hK22
            refine AWPD.seq fun K23 hK23 => ?_
            -- region 20
            rw [hV, hBL]
            refine AWPD.keep [6, 9, 10, 12, 13, 15, 16] rfl ?_
            refine AWPD.region tabOK rfl ?_
            repeat refine And.intro (by first | exact fun h => h | exact fun _ => rfl | (intro h; rw [h]; rfl) | omega | (intros; (try dsimp only [Ty.T, Ty.size]); (try simp only [castL_self, Int.toNat_natCast, Int.toNat_zero, Int.toNat_one, true_and, List.length_append, List.length_set, List.length_drop, List.length_take, List.length_replicate, List.length_cons, List.length_nil, Nat.zero_add, Nat.mul_one]); omega) | decide | (intros; simp_all; done) | (intros; simp_all; omega)) ?_
            refine Exists.intro _ (Exists.intro _ (And.intro (fun hg => StepD.callG errG_stays rfl hG0 (error_fn _ _) rfl rfl rfl) (And.intro (fun hf => rfl) (And.intro rfl (And.intro trivial ?_)))))
            repeat refine And.intro (by first | exact fun h => h | exact fun _ => rfl | (intro h; rw [h]; rfl) | omega | (intros; (try dsimp only [Ty.T, Ty.size]); (try simp only [castL_self, Int.toNat_natCast, Int.toNat_zero, Int.toNat_one, true_and, List.length_append, List.length_set, List.length_drop, List.length_take, List.length_replicate, List.length_cons, List.length_nil, Nat.zero_add, Nat.mul_one]); omega) | decide | (intros; simp_all; done) | (intros; simp_all; omega)) ?_
            refine Exists.intro _ (Exists.intro _ (And.intro (fun hg => StepD.call (by first | exact twos_fn (misV l) (misV l) (by omega) | exact LiftsD.fit (twos_fn [] [] (by decide)) ⟨⟨rfl, rfl⟩, ⟨rfl, by decide⟩, trivial⟩) rfl rfl rfl) (And.intro (fun hf => rfl) (And.intro rfl (And.intro trivial ?_)))))
            repeat refine And.intro (by first | exact fun h => h | exact fun _ => rfl | (intro h; rw [h]; rfl) | omega | (intros; (try dsimp only [Ty.T, Ty.size]); (try simp only [castL_self, Int.toNat_natCast, Int.toNat_zero, Int.toNat_one, true_and, List.length_append, List.length_set, List.length_drop, List.length_take, List.length_replicate, List.length_cons, List.length_nil, Nat.zero_add, Nat.mul_one]); omega) | decide | (intros; simp_all; done) | (intros; simp_all; omega)) ?_
            refine hK23 _ _ ?_
            clear hK23
            refine AWPD.ret (And.intro (.inl rfl) ?_)
            -- result 1
            refine RetD.one ?_
            refine fitB rfl ?_
            rw [hE]
            first | (simp; done) | (simp [he]; done) | (simp [he, castL_self]; done)
      · try dsimp only [Ty.T] at h2
        try simp only [castL_self] at h2
        try simp only [Int.toNat_natCast] at h2
        try simp only [Int.toNat_zero] at h2
        have hE : mixE l = 0 := by unfold mixE; rw [if_pos he, if_neg (by omega)]
        have hV : mixV l = misV l := by unfold mixV; rw [hE]; rfl
        refine AWPD.skip ?_
        refine hK7 _ _ ?_
        clear hK7
        refine AWPD.seq fun K24 hK24 => ?_
        -- region 13
        refine AWPD.keep [0, 1, 5, 6, 7, 8, 9, 10] rfl ?_
        refine AWPD.region tabOK rfl ?_
        refine Exists.intro _ (Exists.intro _ (And.intro (StepD.call (left_fn _ _) rfl rfl rfl) (And.intro rfl (And.intro trivial ?_))))
        refine hK24 _ _ ?_
        clear hK24
        refine AWPD.seq fun K25 hK25 => ?_
        -- region 14
        try rw [hL0]
        refine AWPD.keep [0, 5, 6, 7, 8, 9, 10, 11, 12] rfl ?_
        refine AWPD.region tabOK rfl ?_
        refine Exists.intro _ (Exists.intro _ (And.intro (StepD.callG errG_stays rfl hG0 (error_fn _ _) rfl rfl rfl) (And.intro rfl (And.intro trivial ?_))))
        repeat refine And.intro (by first | exact fun h => h | exact fun _ => rfl | (intro h; rw [h]; rfl) | omega | (intros; (try dsimp only [Ty.T, Ty.size]); (try simp only [castL_self, Int.toNat_natCast, Int.toNat_zero, Int.toNat_one, true_and, List.length_append, List.length_set, List.length_drop, List.length_take, List.length_replicate, List.length_cons, List.length_nil, Nat.zero_add, Nat.mul_one]); omega) | decide | (intros; simp_all; done) | (intros; simp_all; omega)) ?_
        refine Exists.intro _ (Exists.intro _ (And.intro (fun hg => StepD.call (by first | exact ints_fn _ _ (by omega) | exact LiftsD.fit (ints_fn [] [] (by decide)) ⟨⟨rfl, rfl⟩, ⟨rfl, by decide⟩, trivial⟩ | exact LiftsD.fit (ints_fn _ [] (by omega)) ⟨⟨rfl, rfl⟩, ⟨rfl, by decide⟩, trivial⟩) rfl rfl rfl) (And.intro (fun hf => rfl) (And.intro rfl (And.intro trivial ?_)))))
        repeat refine And.intro (by first | exact fun h => h | exact fun _ => rfl | (intro h; rw [h]; rfl) | omega | (intros; (try dsimp only [Ty.T, Ty.size]); (try simp only [castL_self, Int.toNat_natCast, Int.toNat_zero, Int.toNat_one, true_and, List.length_append, List.length_set, List.length_drop, List.length_take, List.length_replicate, List.length_cons, List.length_nil, Nat.zero_add, Nat.mul_one]); omega) | decide | (intros; simp_all; done) | (intros; simp_all; omega)) ?_
        refine hK25 _ _ ?_
        clear hK25
        refine AWPD.seq fun K26 hK26 => ?_
        -- region 15
        refine AWPD.keep [0, 5, 6, 8, 9, 10, 13] rfl ?_
        refine AWPD.region tabOK rfl ?_
        refine Exists.intro _ (Exists.intro _ (And.intro (StepD.call (blind_fn _) rfl rfl rfl) (And.intro rfl (And.intro trivial ?_))))
        refine hK26 _ _ ?_
        clear hK26
        refine AWPD.seq fun K27 hK27 => ?_
        -- region 16
        rw [hB]
        refine AWPD.keep [0, 5, 6, 8, 9, 10, 11, 12, 13, 14] rfl ?_
        refine AWPD.region tabOK rfl ?_
        refine Exists.intro _ (Exists.intro _ (And.intro (StepD.callG errG_stays rfl hG0 (error_fn _ _) rfl rfl rfl) (And.intro rfl (And.intro trivial ?_))))
        repeat refine And.intro (by first | exact fun h => h | exact fun _ => rfl | (intro h; rw [h]; rfl) | omega | (intros; (try dsimp only [Ty.T, Ty.size]); (try simp only [castL_self, Int.toNat_natCast, Int.toNat_zero, Int.toNat_one, true_and, List.length_append, List.length_set, List.length_drop, List.length_take, List.length_replicate, List.length_cons, List.length_nil, Nat.zero_add, Nat.mul_one]); omega) | decide | (intros; simp_all; done) | (intros; simp_all; omega)) ?_
        refine Exists.intro _ (Exists.intro _ (And.intro (fun hg => StepD.call (by first | exact ints_fn (blindL l) _ (by omega) | exact LiftsD.fit (ints_fn (blindL l) [] (by omega)) ⟨⟨rfl, rfl⟩, ⟨rfl, by decide⟩, trivial⟩) rfl rfl rfl) (And.intro (fun hf => rfl) (And.intro rfl (And.intro trivial ?_)))))
        repeat refine And.intro (by first | exact fun h => h | exact fun _ => rfl | (intro h; rw [h]; rfl) | omega | (intros; (try dsimp only [Ty.T, Ty.size]); (try simp only [castL_self, Int.toNat_natCast, Int.toNat_zero, Int.toNat_one, true_and, List.length_append, List.length_set, List.length_drop, List.length_take, List.length_replicate, List.length_cons, List.length_nil, Nat.zero_add, Nat.mul_one]); omega) | decide | (intros; simp_all; done) | (intros; simp_all; omega)) ?_
        refine hK27 _ _ ?_
        clear hK27
        refine AWPD.seq fun K28 hK28 => ?_
        refine AWPD.seq fun K29 hK29 => ?_
        -- region 17
        refine AWPD.keep [0, 6, 9, 10, 13, 15] rfl ?_
        refine AWPD.region tabOK rfl ?_
        refine hK29 _ _ ?_
        clear hK29
        first | refine AWPD.condP rfl (fun h3 => ?_) (fun h3 => ?_) | refine AWPD.condN rfl (fun h3 => ?_) (fun h3 => ?_) | refine AWPD.condAP rfl (fun h3 => ?_) (fun h3 => ?_) | refine AWPD.condOP rfl (fun h3 => ?_) (fun h3 => ?_) | refine AWPD.condONN rfl (fun h3 => ?_) (fun h3 => ?_) | refine AWPD.condOPN rfl (fun h3 => ?_) (fun h3 => ?_) | refine AWPD.condA rfl (fun h3 => ?_) (fun h3 => ?_) | refine AWPD.condO rfl (fun h3 => ?_) (fun h3 => ?_) | refine AWPD.cond rfl (fun h3 => ?_) (fun h3 => ?_)
        · try dsimp only [Ty.T] at h3
          try simp only [castL_self] at h3
          try simp only [Int.toNat_natCast] at h3
          try simp only [Int.toNat_zero] at h3
          try (exact absurd he h3; done)
          all_goals
            -- region 18
            refine AWPD.keep [0, 6, 10, 13, 15] rfl ?_
            refine AWPD.region tabOK rfl ?_
            refine hK28 _ _ ?_
            clear hK28
            refine AWPD.seq fun K30 hK30 => ?_
            -- region 19
            refine AWPD.keep [0, 6, 9, 10, 13, 15] rfl ?_
            refine AWPD.region tabOK rfl ?_
            refine Exists.intro _ (Exists.intro _ (And.intro (StepD.call (mix_fn _) rfl rfl rfl) (And.intro rfl (And.intro trivial ?_))))
            refine hK30 _ _ ?_
            clear hK30
            refine AWPD.seq fun K31 hK31 => ?_
            -- region 20
            rw [hV, hBL]
            refine AWPD.keep [6, 9, 10, 12, 13, 15, 16] rfl ?_
            refine AWPD.region tabOK rfl ?_
            repeat refine And.intro (by first | exact fun h => h | exact fun _ => rfl | (intro h; rw [h]; rfl) | omega | (intros; (try dsimp only [Ty.T, Ty.size]); (try simp only [castL_self, Int.toNat_natCast, Int.toNat_zero, Int.toNat_one, true_and, List.length_append, List.length_set, List.length_drop, List.length_take, List.length_replicate, List.length_cons, List.length_nil, Nat.zero_add, Nat.mul_one]); omega) | decide | (intros; simp_all; done) | (intros; simp_all; omega)) ?_
            refine Exists.intro _ (Exists.intro _ (And.intro (fun hg => StepD.callG errG_stays rfl hG0 (error_fn _ _) rfl rfl rfl) (And.intro (fun hf => rfl) (And.intro rfl (And.intro trivial ?_)))))
            repeat refine And.intro (by first | exact fun h => h | exact fun _ => rfl | (intro h; rw [h]; rfl) | omega | (intros; (try dsimp only [Ty.T, Ty.size]); (try simp only [castL_self, Int.toNat_natCast, Int.toNat_zero, Int.toNat_one, true_and, List.length_append, List.length_set, List.length_drop, List.length_take, List.length_replicate, List.length_cons, List.length_nil, Nat.zero_add, Nat.mul_one]); omega) | decide | (intros; simp_all; done) | (intros; simp_all; omega)) ?_
            refine Exists.intro _ (Exists.intro _ (And.intro (fun hg => StepD.call (by first | exact twos_fn (misV l) (misV l) (by omega) | exact LiftsD.fit (twos_fn [] [] (by decide)) ⟨⟨rfl, rfl⟩, ⟨rfl, by decide⟩, trivial⟩) rfl rfl rfl) (And.intro (fun hf => rfl) (And.intro rfl (And.intro trivial ?_)))))
            repeat refine And.intro (by first | exact fun h => h | exact fun _ => rfl | (intro h; rw [h]; rfl) | omega | (intros; (try dsimp only [Ty.T, Ty.size]); (try simp only [castL_self, Int.toNat_natCast, Int.toNat_zero, Int.toNat_one, true_and, List.length_append, List.length_set, List.length_drop, List.length_take, List.length_replicate, List.length_cons, List.length_nil, Nat.zero_add, Nat.mul_one]); omega) | decide | (intros; simp_all; done) | (intros; simp_all; omega)) ?_
            refine hK31 _ _ ?_
            clear hK31
            refine AWPD.ret (And.intro (.inl rfl) ?_)
            -- result 2
            refine RetD.one ?_
            refine fitB rfl ?_
            rw [hE]
            first | (simp; done) | (simp [he]; done) | (simp [he, castL_self]; done)
        · try dsimp only [Ty.T] at h3
          try simp only [castL_self] at h3
          try simp only [Int.toNat_natCast] at h3
          try simp only [Int.toNat_zero] at h3
          try (first | exact absurd (show (4 : Int) ≠ 0 by decide) h3 | exact absurd he h3; done)
          all_goals
            refine AWPD.skip ?_
            refine hK28 _ _ ?_
            clear hK28
            refine AWPD.seq fun K32 hK32 => ?_
            -- region 19
            refine AWPD.keep [0, 6, 9, 10, 13, 15] rfl ?_
            refine AWPD.region tabOK rfl ?_
            refine Exists.intro _ (Exists.intro _ (And.intro (StepD.call (mix_fn _) rfl rfl rfl) (And.intro rfl (And.intro trivial ?_))))
            refine hK32 _ _ ?_
            clear hK32
            refine AWPD.seq fun K33 hK33 => ?_
            -- region 20
            rw [hV, hBL]
            refine AWPD.keep [6, 9, 10, 12, 13, 15, 16] rfl ?_
            refine AWPD.region tabOK rfl ?_
            repeat refine And.intro (by first | exact fun h => h | exact fun _ => rfl | (intro h; rw [h]; rfl) | omega | (intros; (try dsimp only [Ty.T, Ty.size]); (try simp only [castL_self, Int.toNat_natCast, Int.toNat_zero, Int.toNat_one, true_and, List.length_append, List.length_set, List.length_drop, List.length_take, List.length_replicate, List.length_cons, List.length_nil, Nat.zero_add, Nat.mul_one]); omega) | decide | (intros; simp_all; done) | (intros; simp_all; omega)) ?_
            refine Exists.intro _ (Exists.intro _ (And.intro (fun hg => StepD.callG errG_stays rfl hG0 (error_fn _ _) rfl rfl rfl) (And.intro (fun hf => rfl) (And.intro rfl (And.intro trivial ?_)))))
            repeat refine And.intro (by first | exact fun h => h | exact fun _ => rfl | (intro h; rw [h]; rfl) | omega | (intros; (try dsimp only [Ty.T, Ty.size]); (try simp only [castL_self, Int.toNat_natCast, Int.toNat_zero, Int.toNat_one, true_and, List.length_append, List.length_set, List.length_drop, List.length_take, List.length_replicate, List.length_cons, List.length_nil, Nat.zero_add, Nat.mul_one]); omega) | decide | (intros; simp_all; done) | (intros; simp_all; omega)) ?_
            refine Exists.intro _ (Exists.intro _ (And.intro (fun hg => StepD.call (by first | exact twos_fn (misV l) (misV l) (by omega) | exact LiftsD.fit (twos_fn [] [] (by decide)) ⟨⟨rfl, rfl⟩, ⟨rfl, by decide⟩, trivial⟩) rfl rfl rfl) (And.intro (fun hf => rfl) (And.intro rfl (And.intro trivial ?_)))))
            repeat refine And.intro (by first | exact fun h => h | exact fun _ => rfl | (intro h; rw [h]; rfl) | omega | (intros; (try dsimp only [Ty.T, Ty.size]); (try simp only [castL_self, Int.toNat_natCast, Int.toNat_zero, Int.toNat_one, true_and, List.length_append, List.length_set, List.length_drop, List.length_take, List.length_replicate, List.length_cons, List.length_nil, Nat.zero_add, Nat.mul_one]); omega) | decide | (intros; simp_all; done) | (intros; simp_all; omega)) ?_
            refine hK33 _ _ ?_
            clear hK33
            refine AWPD.ret (And.intro (.inl rfl) ?_)
            -- result 3
            refine RetD.one ?_
            refine fitB rfl ?_
            rw [hE]
            first | (simp; done) | (simp [he]; done) | (simp [he, castL_self]; done)
    · try dsimp only [Ty.T] at h1
      try simp only [castL_self] at h1
      try simp only [Int.toNat_natCast] at h1
      try simp only [Int.toNat_zero] at h1
      have hmz : misV l = [] := List.eq_nil_of_length_eq_zero (by omega)
      have hBL : blindL l = [] := by unfold blindL; rw [if_pos he, hmz]
      refine AWPD.skip ?_
      refine hK11 _ _ ?_
      clear hK11
      refine AWPD.seq fun K34 hK34 => ?_
      -- region 11
      refine AWPD.keep [0, 1, 5, 6, 7, 8, 9, 10] rfl ?_
      refine AWPD.region tabOK rfl ?_
      repeat refine And.intro (by first | exact fun h => h | exact fun _ => rfl | (intro h; rw [h]; rfl) | omega | (intros; (try dsimp only [Ty.T, Ty.size]); (try simp only [castL_self, Int.toNat_natCast, Int.toNat_zero, Int.toNat_one, true_and, List.length_append, List.length_set, List.length_drop, List.length_take, List.length_replicate, List.length_cons, List.length_nil, Nat.zero_add, Nat.mul_one]); omega) | decide | (intros; simp_all; done) | (intros; simp_all; omega)) ?_
      refine hK34 _ _ ?_
      clear hK34
      first | refine AWPD.condP rfl (fun h2 => ?_) (fun h2 => ?_) | refine AWPD.condN rfl (fun h2 => ?_) (fun h2 => ?_) | refine AWPD.condAP rfl (fun h2 => ?_) (fun h2 => ?_) | refine AWPD.condOP rfl (fun h2 => ?_) (fun h2 => ?_) | refine AWPD.condONN rfl (fun h2 => ?_) (fun h2 => ?_) | refine AWPD.condOPN rfl (fun h2 => ?_) (fun h2 => ?_) | refine AWPD.condA rfl (fun h2 => ?_) (fun h2 => ?_) | refine AWPD.condO rfl (fun h2 => ?_) (fun h2 => ?_) | refine AWPD.cond rfl (fun h2 => ?_) (fun h2 => ?_)
      · try dsimp only [Ty.T] at h2
        try simp only [castL_self] at h2
        try simp only [Int.toNat_natCast] at h2
        try simp only [Int.toNat_zero] at h2
        have hE : mixE l = 4 := by unfold mixE; rw [if_pos he, if_pos (by omega)]
        have hV : mixV l = [] := by unfold mixV; rw [hE]; rfl
        -- region 12
        refine AWPD.keep [0, 1, 5, 6, 7, 8, 9] rfl ?_
        refine AWPD.region tabOK rfl ?_
        refine hK7 _ _ ?_
        clear hK7
        refine AWPD.seq fun K35 hK35 => ?_
        -- region 13
        refine AWPD.keep [0, 1, 5, 6, 7, 8, 9, 10] rfl ?_
        refine AWPD.region tabOK rfl ?_
        refine Exists.intro _ (Exists.intro _ (And.intro (StepD.call (left_fn _ _) rfl rfl rfl) (And.intro rfl (And.intro trivial ?_))))
        refine hK35 _ _ ?_
        clear hK35
        refine AWPD.seq fun K36 hK36 => ?_
        -- region 14
        try rw [hL0]
        refine AWPD.keep [0, 5, 6, 7, 8, 9, 10, 11, 12] rfl ?_
        refine AWPD.region tabOK rfl ?_
        refine Exists.intro _ (Exists.intro _ (And.intro (StepD.callG errG_stays rfl hG0 (error_fn _ _) rfl rfl rfl) (And.intro rfl (And.intro trivial ?_))))
        repeat refine And.intro (by first | exact fun h => h | exact fun _ => rfl | (intro h; rw [h]; rfl) | omega | (intros; (try dsimp only [Ty.T, Ty.size]); (try simp only [castL_self, Int.toNat_natCast, Int.toNat_zero, Int.toNat_one, true_and, List.length_append, List.length_set, List.length_drop, List.length_take, List.length_replicate, List.length_cons, List.length_nil, Nat.zero_add, Nat.mul_one]); omega) | decide | (intros; simp_all; done) | (intros; simp_all; omega)) ?_
        refine Exists.intro _ (Exists.intro _ (And.intro (fun hg => StepD.call (by first | exact ints_fn _ _ (by omega) | exact LiftsD.fit (ints_fn [] [] (by decide)) ⟨⟨rfl, rfl⟩, ⟨rfl, by decide⟩, trivial⟩ | exact LiftsD.fit (ints_fn _ [] (by omega)) ⟨⟨rfl, rfl⟩, ⟨rfl, by decide⟩, trivial⟩) rfl rfl rfl) (And.intro (fun hf => rfl) (And.intro rfl (And.intro trivial ?_)))))
        repeat refine And.intro (by first | exact fun h => h | exact fun _ => rfl | (intro h; rw [h]; rfl) | omega | (intros; (try dsimp only [Ty.T, Ty.size]); (try simp only [castL_self, Int.toNat_natCast, Int.toNat_zero, Int.toNat_one, true_and, List.length_append, List.length_set, List.length_drop, List.length_take, List.length_replicate, List.length_cons, List.length_nil, Nat.zero_add, Nat.mul_one]); omega) | decide | (intros; simp_all; done) | (intros; simp_all; omega)) ?_
        refine hK36 _ _ ?_
        clear hK36
        refine AWPD.seq fun K37 hK37 => ?_
        -- region 15
        refine AWPD.keep [0, 5, 6, 8, 9, 10, 13] rfl ?_
        refine AWPD.region tabOK rfl ?_
        refine Exists.intro _ (Exists.intro _ (And.intro (StepD.call (blind_fn _) rfl rfl rfl) (And.intro rfl (And.intro trivial ?_))))
        refine hK37 _ _ ?_
        clear hK37
        refine AWPD.seq fun K38 hK38 => ?_
        -- region 16
        rw [hB]
        refine AWPD.keep [0, 5, 6, 8, 9, 10, 11, 12, 13, 14] rfl ?_
        refine AWPD.region tabOK rfl ?_
        refine Exists.intro _ (Exists.intro _ (And.intro (StepD.callG errG_stays rfl hG0 (error_fn _ _) rfl rfl rfl) (And.intro rfl (And.intro trivial ?_))))
        repeat refine And.intro (by first | exact fun h => h | exact fun _ => rfl | (intro h; rw [h]; rfl) | omega | (intros; (try dsimp only [Ty.T, Ty.size]); (try simp only [castL_self, Int.toNat_natCast, Int.toNat_zero, Int.toNat_one, true_and, List.length_append, List.length_set, List.length_drop, List.length_take, List.length_replicate, List.length_cons, List.length_nil, Nat.zero_add, Nat.mul_one]); omega) | decide | (intros; simp_all; done) | (intros; simp_all; omega)) ?_
        refine Exists.intro _ (Exists.intro _ (And.intro (fun hg => StepD.call (by first | exact ints_fn (blindL l) _ (by omega) | exact LiftsD.fit (ints_fn (blindL l) [] (by omega)) ⟨⟨rfl, rfl⟩, ⟨rfl, by decide⟩, trivial⟩) rfl rfl rfl) (And.intro (fun hf => rfl) (And.intro rfl (And.intro trivial ?_)))))
        repeat refine And.intro (by first | exact fun h => h | exact fun _ => rfl | (intro h; rw [h]; rfl) | omega | (intros; (try dsimp only [Ty.T, Ty.size]); (try simp only [castL_self, Int.toNat_natCast, Int.toNat_zero, Int.toNat_one, true_and, List.length_append, List.length_set, List.length_drop, List.length_take, List.length_replicate, List.length_cons, List.length_nil, Nat.zero_add, Nat.mul_one]); omega) | decide | (intros; simp_all; done) | (intros; simp_all; omega)) ?_
        refine hK38 _ _ ?_
        clear hK38
        refine AWPD.seq fun K39 hK39 => ?_
        refine AWPD.seq fun K40 hK40 => ?_
        -- region 17
        refine AWPD.keep [0, 6, 9, 10, 13, 15] rfl ?_
        refine AWPD.region tabOK rfl ?_
        refine hK40 _ _ ?_
        clear hK40
        first | refine AWPD.condP rfl (fun h3 => ?_) (fun h3 => ?_) | refine AWPD.condN rfl (fun h3 => ?_) (fun h3 => ?_) | refine AWPD.condAP rfl (fun h3 => ?_) (fun h3 => ?_) | refine AWPD.condOP rfl (fun h3 => ?_) (fun h3 => ?_) | refine AWPD.condONN rfl (fun h3 => ?_) (fun h3 => ?_) | refine AWPD.condOPN rfl (fun h3 => ?_) (fun h3 => ?_) | refine AWPD.condA rfl (fun h3 => ?_) (fun h3 => ?_) | refine AWPD.condO rfl (fun h3 => ?_) (fun h3 => ?_) | refine AWPD.cond rfl (fun h3 => ?_) (fun h3 => ?_)
        · try dsimp only [Ty.T] at h3
          try simp only [castL_self] at h3
          try simp only [Int.toNat_natCast] at h3
          try simp only [Int.toNat_zero] at h3
          try (exact absurd he h3; done)
          all_goals
            -- region 18
            refine AWPD.keep [0, 6, 10, 13, 15] rfl ?_
            refine AWPD.region tabOK rfl ?_
            refine hK39 _ _ ?_
            clear hK39
            refine AWPD.seq fun K41 hK41 => ?_
            -- region 19
            refine AWPD.keep [0, 6, 9, 10, 13, 15] rfl ?_
            refine AWPD.region tabOK rfl ?_
            refine Exists.intro _ (Exists.intro _ (And.intro (StepD.call (mix_fn _) rfl rfl rfl) (And.intro rfl (And.intro trivial ?_))))
            refine hK41 _ _ ?_
            clear hK41
            refine AWPD.seq fun K42 hK42 => ?_
            -- region 20
            rw [hV, hBL]
            refine AWPD.keep [6, 9, 10, 12, 13, 15, 16] rfl ?_
            refine AWPD.region tabOK rfl ?_
            repeat refine And.intro (by first | exact fun h => h | exact fun _ => rfl | (intro h; rw [h]; rfl) | omega | (intros; (try dsimp only [Ty.T, Ty.size]); (try simp only [castL_self, Int.toNat_natCast, Int.toNat_zero, Int.toNat_one, true_and, List.length_append, List.length_set, List.length_drop, List.length_take, List.length_replicate, List.length_cons, List.length_nil, Nat.zero_add, Nat.mul_one]); omega) | decide | (intros; simp_all; done) | (intros; simp_all; omega)) ?_
            refine Exists.intro _ (Exists.intro _ (And.intro (fun hg => StepD.callG errG_stays rfl hG0 (error_fn _ _) rfl rfl rfl) (And.intro (fun hf => rfl) (And.intro rfl (And.intro trivial ?_)))))
            repeat refine And.intro (by first | exact fun h => h | exact fun _ => rfl | (intro h; rw [h]; rfl) | omega | (intros; (try dsimp only [Ty.T, Ty.size]); (try simp only [castL_self, Int.toNat_natCast, Int.toNat_zero, Int.toNat_one, true_and, List.length_append, List.length_set, List.length_drop, List.length_take, List.length_replicate, List.length_cons, List.length_nil, Nat.zero_add, Nat.mul_one]); omega) | decide | (intros; simp_all; done) | (intros; simp_all; omega)) ?_
            refine Exists.intro _ (Exists.intro _ (And.intro (fun hg => StepD.call (by first | exact twos_fn (misV l) (misV l) (by omega) | exact LiftsD.fit (twos_fn [] [] (by decide)) ⟨⟨rfl, rfl⟩, ⟨rfl, by decide⟩, trivial⟩) rfl rfl rfl) (And.intro (fun hf => rfl) (And.intro rfl (And.intro trivial ?_)))))
            repeat refine And.intro (by first | exact fun h => h | exact fun _ => rfl | (intro h; rw [h]; rfl) | omega | (intros; (try dsimp only [Ty.T, Ty.size]); (try simp only [castL_self, Int.toNat_natCast, Int.toNat_zero, Int.toNat_one, true_and, List.length_append, List.length_set, List.length_drop, List.length_take, List.length_replicate, List.length_cons, List.length_nil, Nat.zero_add, Nat.mul_one]); omega) | decide | (intros; simp_all; done) | (intros; simp_all; omega)) ?_
            refine hK42 _ _ ?_
            clear hK42
            refine AWPD.ret (And.intro (.inl rfl) ?_)
            -- result 4
            refine RetD.one ?_
            refine fitB rfl ?_
            rw [hE]
            first | (simp; done) | (simp [he]; done) | (simp [he, castL_self]; done)
        · try dsimp only [Ty.T] at h3
          try simp only [castL_self] at h3
          try simp only [Int.toNat_natCast] at h3
          try simp only [Int.toNat_zero] at h3
          try (first | exact absurd (show (4 : Int) ≠ 0 by decide) h3 | exact absurd he h3; done)
          all_goals
            refine AWPD.skip ?_
            refine hK39 _ _ ?_
            clear hK39
            refine AWPD.seq fun K43 hK43 => ?_
            -- region 19
            refine AWPD.keep [0, 6, 9, 10, 13, 15] rfl ?_
            refine AWPD.region tabOK rfl ?_
            refine Exists.intro _ (Exists.intro _ (And.intro (StepD.call (mix_fn _) rfl rfl rfl) (And.intro rfl (And.intro trivial ?_))))
            refine hK43 _ _ ?_
            clear hK43
            refine AWPD.seq fun K44 hK44 => ?_
            -- region 20
            rw [hV, hBL]
            refine AWPD.keep [6, 9, 10, 12, 13, 15, 16] rfl ?_
            refine AWPD.region tabOK rfl ?_
            repeat refine And.intro (by first | exact fun h => h | exact fun _ => rfl | (intro h; rw [h]; rfl) | omega | (intros; (try dsimp only [Ty.T, Ty.size]); (try simp only [castL_self, Int.toNat_natCast, Int.toNat_zero, Int.toNat_one, true_and, List.length_append, List.length_set, List.length_drop, List.length_take, List.length_replicate, List.length_cons, List.length_nil, Nat.zero_add, Nat.mul_one]); omega) | decide | (intros; simp_all; done) | (intros; simp_all; omega)) ?_
            refine Exists.intro _ (Exists.intro _ (And.intro (fun hg => StepD.callG errG_stays rfl hG0 (error_fn _ _) rfl rfl rfl) (And.intro (fun hf => rfl) (And.intro rfl (And.intro trivial ?_)))))
            repeat refine And.intro (by first | exact fun h => h | exact fun _ => rfl | (intro h; rw [h]; rfl) | omega | (intros; (try dsimp only [Ty.T, Ty.size]); (try simp only [castL_self, Int.toNat_natCast, Int.toNat_zero, Int.toNat_one, true_and, List.length_append, List.length_set, List.length_drop, List.length_take, List.length_replicate, List.length_cons, List.length_nil, Nat.zero_add, Nat.mul_one]); omega) | decide | (intros; simp_all; done) | (intros; simp_all; omega)) ?_
            refine Exists.intro _ (Exists.intro _ (And.intro (fun hg => StepD.call (by first | exact twos_fn (misV l) (misV l) (by omega) | exact LiftsD.fit (twos_fn [] [] (by decide)) ⟨⟨rfl, rfl⟩, ⟨rfl, by decide⟩, trivial⟩) rfl rfl rfl) (And.intro (fun hf => rfl) (And.intro rfl (And.intro trivial ?_)))))
            repeat refine And.intro (by first | exact fun h => h | exact fun _ => rfl | (intro h; rw [h]; rfl) | omega | (intros; (try dsimp only [Ty.T, Ty.size]); (try simp only [castL_self, Int.toNat_natCast, Int.toNat_zero, Int.toNat_one, true_and, List.length_append, List.length_set, List.length_drop, List.length_take, List.length_replicate, List.length_cons, List.length_nil, Nat.zero_add, Nat.mul_one]); omega) | decide | (intros; simp_all; done) | (intros; simp_all; omega)) ?_
            refine hK44 _ _ ?_
            clear hK44
            refine AWPD.ret (And.intro (.inl rfl) ?_)
            -- result 5
            refine RetD.one ?_
            refine fitB rfl ?_
            rw [hE]
            first | (simp; done) | (simp [he]; done) | (simp [he, castL_self]; done)
      · try dsimp only [Ty.T] at h2
        try simp only [castL_self] at h2
        try simp only [Int.toNat_natCast] at h2
        try simp only [Int.toNat_zero] at h2
        have hE : mixE l = 0 := by unfold mixE; rw [if_pos he, if_neg (by omega)]
        have hV : mixV l = misV l := by unfold mixV; rw [hE]; rfl
        refine AWPD.skip ?_
        refine hK7 _ _ ?_
        clear hK7
        refine AWPD.seq fun K45 hK45 => ?_
        -- region 13
        refine AWPD.keep [0, 1, 5, 6, 7, 8, 9, 10] rfl ?_
        refine AWPD.region tabOK rfl ?_
        refine Exists.intro _ (Exists.intro _ (And.intro (StepD.call (left_fn _ _) rfl rfl rfl) (And.intro rfl (And.intro trivial ?_))))
        refine hK45 _ _ ?_
        clear hK45
        refine AWPD.seq fun K46 hK46 => ?_
        -- region 14
        try rw [hL0]
        refine AWPD.keep [0, 5, 6, 7, 8, 9, 10, 11, 12] rfl ?_
        refine AWPD.region tabOK rfl ?_
        refine Exists.intro _ (Exists.intro _ (And.intro (StepD.callG errG_stays rfl hG0 (error_fn _ _) rfl rfl rfl) (And.intro rfl (And.intro trivial ?_))))
        repeat refine And.intro (by first | exact fun h => h | exact fun _ => rfl | (intro h; rw [h]; rfl) | omega | (intros; (try dsimp only [Ty.T, Ty.size]); (try simp only [castL_self, Int.toNat_natCast, Int.toNat_zero, Int.toNat_one, true_and, List.length_append, List.length_set, List.length_drop, List.length_take, List.length_replicate, List.length_cons, List.length_nil, Nat.zero_add, Nat.mul_one]); omega) | decide | (intros; simp_all; done) | (intros; simp_all; omega)) ?_
        refine Exists.intro _ (Exists.intro _ (And.intro (fun hg => StepD.call (by first | exact ints_fn _ _ (by omega) | exact LiftsD.fit (ints_fn [] [] (by decide)) ⟨⟨rfl, rfl⟩, ⟨rfl, by decide⟩, trivial⟩ | exact LiftsD.fit (ints_fn _ [] (by omega)) ⟨⟨rfl, rfl⟩, ⟨rfl, by decide⟩, trivial⟩) rfl rfl rfl) (And.intro (fun hf => rfl) (And.intro rfl (And.intro trivial ?_)))))
        repeat refine And.intro (by first | exact fun h => h | exact fun _ => rfl | (intro h; rw [h]; rfl) | omega | (intros; (try dsimp only [Ty.T, Ty.size]); (try simp only [castL_self, Int.toNat_natCast, Int.toNat_zero, Int.toNat_one, true_and, List.length_append, List.length_set, List.length_drop, List.length_take, List.length_replicate, List.length_cons, List.length_nil, Nat.zero_add, Nat.mul_one]); omega) | decide | (intros; simp_all; done) | (intros; simp_all; omega)) ?_
        refine hK46 _ _ ?_
        clear hK46
        refine AWPD.seq fun K47 hK47 => ?_
        -- region 15
        refine AWPD.keep [0, 5, 6, 8, 9, 10, 13] rfl ?_
        refine AWPD.region tabOK rfl ?_
        refine Exists.intro _ (Exists.intro _ (And.intro (StepD.call (blind_fn _) rfl rfl rfl) (And.intro rfl (And.intro trivial ?_))))
        refine hK47 _ _ ?_
        clear hK47
        refine AWPD.seq fun K48 hK48 => ?_
        -- region 16
        rw [hB]
        refine AWPD.keep [0, 5, 6, 8, 9, 10, 11, 12, 13, 14] rfl ?_
        refine AWPD.region tabOK rfl ?_
        refine Exists.intro _ (Exists.intro _ (And.intro (StepD.callG errG_stays rfl hG0 (error_fn _ _) rfl rfl rfl) (And.intro rfl (And.intro trivial ?_))))
        repeat refine And.intro (by first | exact fun h => h | exact fun _ => rfl | (intro h; rw [h]; rfl) | omega | (intros; (try dsimp only [Ty.T, Ty.size]); (try simp only [castL_self, Int.toNat_natCast, Int.toNat_zero, Int.toNat_one, true_and, List.length_append, List.length_set, List.length_drop, List.length_take, List.length_replicate, List.length_cons, List.length_nil, Nat.zero_add, Nat.mul_one]); omega) | decide | (intros; simp_all; done) | (intros; simp_all; omega)) ?_
        refine Exists.intro _ (Exists.intro _ (And.intro (fun hg => StepD.call (by first | exact ints_fn (blindL l) _ (by omega) | exact LiftsD.fit (ints_fn (blindL l) [] (by omega)) ⟨⟨rfl, rfl⟩, ⟨rfl, by decide⟩, trivial⟩) rfl rfl rfl) (And.intro (fun hf => rfl) (And.intro rfl (And.intro trivial ?_)))))
        repeat refine And.intro (by first | exact fun h => h | exact fun _ => rfl | (intro h; rw [h]; rfl) | omega | (intros; (try dsimp only [Ty.T, Ty.size]); (try simp only [castL_self, Int.toNat_natCast, Int.toNat_zero, Int.toNat_one, true_and, List.length_append, List.length_set, List.length_drop, List.length_take, List.length_replicate, List.length_cons, List.length_nil, Nat.zero_add, Nat.mul_one]); omega) | decide | (intros; simp_all; done) | (intros; simp_all; omega)) ?_
        refine hK48 _ _ ?_
        clear hK48
        refine AWPD.seq fun K49 hK49 => ?_
        refine AWPD.seq fun K50 hK50 => ?_
        -- region 17
        refine AWPD.keep [0, 6, 9, 10, 13, 15] rfl ?_
        refine AWPD.region tabOK rfl ?_
        refine hK50 _ _ ?_
        clear hK50
        first | refine AWPD.condP rfl (fun h3 => ?_) (fun h3 => ?_) | refine AWPD.condN rfl (fun h3 => ?_) (fun h3 => ?_) | refine AWPD.condAP rfl (fun h3 => ?_) (fun h3 => ?_) | refine AWPD.condOP rfl (fun h3 => ?_) (fun h3 => ?_) | refine AWPD.condONN rfl (fun h3 => ?_) (fun h3 => ?_) | refine AWPD.condOPN rfl (fun h3 => ?_) (fun h3 => ?_) | refine AWPD.condA rfl (fun h3 => ?_) (fun h3 => ?_) | refine AWPD.condO rfl (fun h3 => ?_) (fun h3 => ?_) | refine AWPD.cond rfl (fun h3 => ?_) (fun h3 => ?_)
        · try dsimp only [Ty.T] at h3
          try simp only [castL_self] at h3
          try simp only [Int.toNat_natCast] at h3
          try simp only [Int.toNat_zero] at h3
          try (exact absurd he h3; done)
          all_goals
            -- region 18
            refine AWPD.keep [0, 6, 10, 13, 15] rfl ?_
            refine AWPD.region tabOK rfl ?_
            refine hK49 _ _ ?_
            clear hK49
            refine AWPD.seq fun K51 hK51 => ?_
            -- region 19
            refine AWPD.keep [0, 6, 9, 10, 13, 15] rfl ?_
            refine AWPD.region tabOK rfl ?_
            refine Exists.intro _ (Exists.intro _ (And.intro (StepD.call (mix_fn _) rfl rfl rfl) (And.intro rfl (And.intro trivial ?_))))
            refine hK51 _ _ ?_
            clear hK51
            refine AWPD.seq fun K52 hK52 => ?_
            -- region 20
            rw [hV, hBL]
            refine AWPD.keep [6, 9, 10, 12, 13, 15, 16] rfl ?_
            refine AWPD.region tabOK rfl ?_
            repeat refine And.intro (by first | exact fun h => h | exact fun _ => rfl | (intro h; rw [h]; rfl) | omega | (intros; (try dsimp only [Ty.T, Ty.size]); (try simp only [castL_self, Int.toNat_natCast, Int.toNat_zero, Int.toNat_one, true_and, List.length_append, List.length_set, List.length_drop, List.length_take, List.length_replicate, List.length_cons, List.length_nil, Nat.zero_add, Nat.mul_one]); omega) | decide | (intros; simp_all; done) | (intros; simp_all; omega)) ?_
            refine Exists.intro _ (Exists.intro _ (And.intro (fun hg => StepD.callG errG_stays rfl hG0 (error_fn _ _) rfl rfl rfl) (And.intro (fun hf => rfl) (And.intro rfl (And.intro trivial ?_)))))
            repeat refine And.intro (by first | exact fun h => h | exact fun _ => rfl | (intro h; rw [h]; rfl) | omega | (intros; (try dsimp only [Ty.T, Ty.size]); (try simp only [castL_self, Int.toNat_natCast, Int.toNat_zero, Int.toNat_one, true_and, List.length_append, List.length_set, List.length_drop, List.length_take, List.length_replicate, List.length_cons, List.length_nil, Nat.zero_add, Nat.mul_one]); omega) | decide | (intros; simp_all; done) | (intros; simp_all; omega)) ?_
            refine Exists.intro _ (Exists.intro _ (And.intro (fun hg => StepD.call (by first | exact twos_fn (misV l) (misV l) (by omega) | exact LiftsD.fit (twos_fn [] [] (by decide)) ⟨⟨rfl, rfl⟩, ⟨rfl, by decide⟩, trivial⟩) rfl rfl rfl) (And.intro (fun hf => rfl) (And.intro rfl (And.intro trivial ?_)))))
            repeat refine And.intro (by first | exact fun h => h | exact fun _ => rfl | (intro h; rw [h]; rfl) | omega | (intros; (try dsimp only [Ty.T, Ty.size]); (try simp only [castL_self, Int.toNat_natCast, Int.toNat_zero, Int.toNat_one, true_and, List.length_append, List.length_set, List.length_drop, List.length_take, List.length_replicate, List.length_cons, List.length_nil, Nat.zero_add, Nat.mul_one]); omega) | decide | (intros; simp_all; done) | (intros; simp_all; omega)) ?_
            refine hK52 _ _ ?_
            clear hK52
            refine AWPD.ret (And.intro (.inl rfl) ?_)
            -- result 6
            refine RetD.one ?_
            refine fitB rfl ?_
            rw [hE]
            first | (simp; done) | (simp [he]; done) | (simp [he, castL_self]; done)
        · try dsimp only [Ty.T] at h3
          try simp only [castL_self] at h3
          try simp only [Int.toNat_natCast] at h3
          try simp only [Int.toNat_zero] at h3
          try (first | exact absurd (show (4 : Int) ≠ 0 by decide) h3 | exact absurd he h3; done)
          all_goals
            refine AWPD.skip ?_
            refine hK49 _ _ ?_
            clear hK49
            refine AWPD.seq fun K53 hK53 => ?_
            -- region 19
            refine AWPD.keep [0, 6, 9, 10, 13, 15] rfl ?_
            refine AWPD.region tabOK rfl ?_
            refine Exists.intro _ (Exists.intro _ (And.intro (StepD.call (mix_fn _) rfl rfl rfl) (And.intro rfl (And.intro trivial ?_))))
            refine hK53 _ _ ?_
            clear hK53
            refine AWPD.seq fun K54 hK54 => ?_
            -- region 20
            rw [hV, hBL]
            refine AWPD.keep [6, 9, 10, 12, 13, 15, 16] rfl ?_
            refine AWPD.region tabOK rfl ?_
            repeat refine And.intro (by first | exact fun h => h | exact fun _ => rfl | (intro h; rw [h]; rfl) | omega | (intros; (try dsimp only [Ty.T, Ty.size]); (try simp only [castL_self, Int.toNat_natCast, Int.toNat_zero, Int.toNat_one, true_and, List.length_append, List.length_set, List.length_drop, List.length_take, List.length_replicate, List.length_cons, List.length_nil, Nat.zero_add, Nat.mul_one]); omega) | decide | (intros; simp_all; done) | (intros; simp_all; omega)) ?_
            refine Exists.intro _ (Exists.intro _ (And.intro (fun hg => StepD.callG errG_stays rfl hG0 (error_fn _ _) rfl rfl rfl) (And.intro (fun hf => rfl) (And.intro rfl (And.intro trivial ?_)))))
            repeat refine And.intro (by first | exact fun h => h | exact fun _ => rfl | (intro h; rw [h]; rfl) | omega | (intros; (try dsimp only [Ty.T, Ty.size]); (try simp only [castL_self, Int.toNat_natCast, Int.toNat_zero, Int.toNat_one, true_and, List.length_append, List.length_set, List.length_drop, List.length_take, List.length_replicate, List.length_cons, List.length_nil, Nat.zero_add, Nat.mul_one]); omega) | decide | (intros; simp_all; done) | (intros; simp_all; omega)) ?_
            refine Exists.intro _ (Exists.intro _ (And.intro (fun hg => StepD.call (by first | exact twos_fn (misV l) (misV l) (by omega) | exact LiftsD.fit (twos_fn [] [] (by decide)) ⟨⟨rfl, rfl⟩, ⟨rfl, by decide⟩, trivial⟩) rfl rfl rfl) (And.intro (fun hf => rfl) (And.intro rfl (And.intro trivial ?_)))))
            repeat refine And.intro (by first | exact fun h => h | exact fun _ => rfl | (intro h; rw [h]; rfl) | omega | (intros; (try dsimp only [Ty.T, Ty.size]); (try simp only [castL_self, Int.toNat_natCast, Int.toNat_zero, Int.toNat_one, true_and, List.length_append, List.length_set, List.length_drop, List.length_take, List.length_replicate, List.length_cons, List.length_nil, Nat.zero_add, Nat.mul_one]); omega) | decide | (intros; simp_all; done) | (intros; simp_all; omega)) ?_
            refine hK54 _ _ ?_
            clear hK54
            refine AWPD.ret (And.intro (.inl rfl) ?_)
            -- result 7
            refine RetD.one ?_
            refine fitB rfl ?_
            rw [hE]
            first | (simp; done) | (simp [he]; done) | (simp [he, castL_self]; done)
  · try dsimp only [Ty.T] at h0
    try simp only [castL_self] at h0
    try simp only [Int.toNat_natCast] at h0
    try simp only [Int.toNat_zero] at h0
    have he : ¬wldE l = 0 := h0
    have hL0 : leftV l s = [] := by unfold leftV; rw [if_neg he]
    have hB : blindB l = false := by unfold blindB; rw [decide_eq_false he]; rfl
    have hBL : blindL l = [] := by unfold blindL; rw [if_neg he]
    have hE : mixE l = wldE l := by unfold mixE; rw [if_neg he]
    have hV : mixV l = [] := by unfold mixV; rw [hE, if_neg he]
    refine AWPD.skip ?_
    refine hK7 _ _ ?_
    clear hK7
    refine AWPD.seq fun K55 hK55 => ?_
    -- region 13
    refine AWPD.keep [0, 1, 5, 6, 7, 8, 9, 10] rfl ?_
    refine AWPD.region tabOK rfl ?_
    refine Exists.intro _ (Exists.intro _ (And.intro (StepD.call (left_fn _ _) rfl rfl rfl) (And.intro rfl (And.intro trivial ?_))))
    refine hK55 _ _ ?_
    clear hK55
    refine AWPD.seq fun K56 hK56 => ?_
    -- region 14
    try rw [hL0]
    refine AWPD.keep [0, 5, 6, 7, 8, 9, 10, 11, 12] rfl ?_
    refine AWPD.region tabOK rfl ?_
    refine Exists.intro _ (Exists.intro _ (And.intro (StepD.callG errG_stays rfl hG0 (error_fn _ _) rfl rfl rfl) (And.intro rfl (And.intro trivial ?_))))
    repeat refine And.intro (by first | exact fun h => h | exact fun _ => rfl | (intro h; rw [h]; rfl) | omega | (intros; (try dsimp only [Ty.T, Ty.size]); (try simp only [castL_self, Int.toNat_natCast, Int.toNat_zero, Int.toNat_one, true_and, List.length_append, List.length_set, List.length_drop, List.length_take, List.length_replicate, List.length_cons, List.length_nil, Nat.zero_add, Nat.mul_one]); omega) | decide | (intros; simp_all; done) | (intros; simp_all; omega)) ?_
    refine Exists.intro _ (Exists.intro _ (And.intro (fun hg => StepD.call (by first | exact ints_fn _ _ (by omega) | exact LiftsD.fit (ints_fn [] [] (by decide)) ⟨⟨rfl, rfl⟩, ⟨rfl, by decide⟩, trivial⟩ | exact LiftsD.fit (ints_fn _ [] (by omega)) ⟨⟨rfl, rfl⟩, ⟨rfl, by decide⟩, trivial⟩) rfl rfl rfl) (And.intro (fun hf => rfl) (And.intro rfl (And.intro trivial ?_)))))
    repeat refine And.intro (by first | exact fun h => h | exact fun _ => rfl | (intro h; rw [h]; rfl) | omega | (intros; (try dsimp only [Ty.T, Ty.size]); (try simp only [castL_self, Int.toNat_natCast, Int.toNat_zero, Int.toNat_one, true_and, List.length_append, List.length_set, List.length_drop, List.length_take, List.length_replicate, List.length_cons, List.length_nil, Nat.zero_add, Nat.mul_one]); omega) | decide | (intros; simp_all; done) | (intros; simp_all; omega)) ?_
    refine hK56 _ _ ?_
    clear hK56
    refine AWPD.seq fun K57 hK57 => ?_
    -- region 15
    refine AWPD.keep [0, 5, 6, 8, 9, 10, 13] rfl ?_
    refine AWPD.region tabOK rfl ?_
    refine Exists.intro _ (Exists.intro _ (And.intro (StepD.call (blind_fn _) rfl rfl rfl) (And.intro rfl (And.intro trivial ?_))))
    refine hK57 _ _ ?_
    clear hK57
    refine AWPD.seq fun K58 hK58 => ?_
    -- region 16
    rw [hB]
    refine AWPD.keep [0, 5, 6, 8, 9, 10, 11, 12, 13, 14] rfl ?_
    refine AWPD.region tabOK rfl ?_
    refine Exists.intro _ (Exists.intro _ (And.intro (StepD.callG errG_stays rfl hG0 (error_fn _ _) rfl rfl rfl) (And.intro rfl (And.intro trivial ?_))))
    repeat refine And.intro (by first | exact fun h => h | exact fun _ => rfl | (intro h; rw [h]; rfl) | omega | (intros; (try dsimp only [Ty.T, Ty.size]); (try simp only [castL_self, Int.toNat_natCast, Int.toNat_zero, Int.toNat_one, true_and, List.length_append, List.length_set, List.length_drop, List.length_take, List.length_replicate, List.length_cons, List.length_nil, Nat.zero_add, Nat.mul_one]); omega) | decide | (intros; simp_all; done) | (intros; simp_all; omega)) ?_
    refine Exists.intro _ (Exists.intro _ (And.intro (fun hg => StepD.call (by first | exact ints_fn (blindL l) _ (by omega) | exact LiftsD.fit (ints_fn (blindL l) [] (by omega)) ⟨⟨rfl, rfl⟩, ⟨rfl, by decide⟩, trivial⟩) rfl rfl rfl) (And.intro (fun hf => rfl) (And.intro rfl (And.intro trivial ?_)))))
    repeat refine And.intro (by first | exact fun h => h | exact fun _ => rfl | (intro h; rw [h]; rfl) | omega | (intros; (try dsimp only [Ty.T, Ty.size]); (try simp only [castL_self, Int.toNat_natCast, Int.toNat_zero, Int.toNat_one, true_and, List.length_append, List.length_set, List.length_drop, List.length_take, List.length_replicate, List.length_cons, List.length_nil, Nat.zero_add, Nat.mul_one]); omega) | decide | (intros; simp_all; done) | (intros; simp_all; omega)) ?_
    refine hK58 _ _ ?_
    clear hK58
    refine AWPD.seq fun K59 hK59 => ?_
    refine AWPD.seq fun K60 hK60 => ?_
    -- region 17
    refine AWPD.keep [0, 6, 9, 10, 13, 15] rfl ?_
    refine AWPD.region tabOK rfl ?_
    refine hK60 _ _ ?_
    clear hK60
    first | refine AWPD.condP rfl (fun h3 => ?_) (fun h3 => ?_) | refine AWPD.condN rfl (fun h3 => ?_) (fun h3 => ?_) | refine AWPD.condAP rfl (fun h3 => ?_) (fun h3 => ?_) | refine AWPD.condOP rfl (fun h3 => ?_) (fun h3 => ?_) | refine AWPD.condONN rfl (fun h3 => ?_) (fun h3 => ?_) | refine AWPD.condOPN rfl (fun h3 => ?_) (fun h3 => ?_) | refine AWPD.condA rfl (fun h3 => ?_) (fun h3 => ?_) | refine AWPD.condO rfl (fun h3 => ?_) (fun h3 => ?_) | refine AWPD.cond rfl (fun h3 => ?_) (fun h3 => ?_)
    · try dsimp only [Ty.T] at h3
      try simp only [castL_self] at h3
      try simp only [Int.toNat_natCast] at h3
      try simp only [Int.toNat_zero] at h3
      try (exact absurd he h3; done)
      all_goals
        -- region 18
        refine AWPD.keep [0, 6, 10, 13, 15] rfl ?_
        refine AWPD.region tabOK rfl ?_
        refine hK59 _ _ ?_
        clear hK59
        refine AWPD.seq fun K61 hK61 => ?_
        -- region 19
        refine AWPD.keep [0, 6, 9, 10, 13, 15] rfl ?_
        refine AWPD.region tabOK rfl ?_
        refine Exists.intro _ (Exists.intro _ (And.intro (StepD.call (mix_fn _) rfl rfl rfl) (And.intro rfl (And.intro trivial ?_))))
        refine hK61 _ _ ?_
        clear hK61
        refine AWPD.seq fun K62 hK62 => ?_
        -- region 20
        rw [hV, hBL]
        refine AWPD.keep [6, 9, 10, 12, 13, 15, 16] rfl ?_
        refine AWPD.region tabOK rfl ?_
        repeat refine And.intro (by first | exact fun h => h | exact fun _ => rfl | (intro h; rw [h]; rfl) | omega | (intros; (try dsimp only [Ty.T, Ty.size]); (try simp only [castL_self, Int.toNat_natCast, Int.toNat_zero, Int.toNat_one, true_and, List.length_append, List.length_set, List.length_drop, List.length_take, List.length_replicate, List.length_cons, List.length_nil, Nat.zero_add, Nat.mul_one]); omega) | decide | (intros; simp_all; done) | (intros; simp_all; omega)) ?_
        refine Exists.intro _ (Exists.intro _ (And.intro (fun hg => StepD.callG errG_stays rfl hG0 (error_fn _ _) rfl rfl rfl) (And.intro (fun hf => rfl) (And.intro rfl (And.intro trivial ?_)))))
        repeat refine And.intro (by first | exact fun h => h | exact fun _ => rfl | (intro h; rw [h]; rfl) | omega | (intros; (try dsimp only [Ty.T, Ty.size]); (try simp only [castL_self, Int.toNat_natCast, Int.toNat_zero, Int.toNat_one, true_and, List.length_append, List.length_set, List.length_drop, List.length_take, List.length_replicate, List.length_cons, List.length_nil, Nat.zero_add, Nat.mul_one]); omega) | decide | (intros; simp_all; done) | (intros; simp_all; omega)) ?_
        refine Exists.intro _ (Exists.intro _ (And.intro (fun hg => StepD.call (by first | exact twos_fn (misV l) (misV l) (by omega) | exact LiftsD.fit (twos_fn [] [] (by decide)) ⟨⟨rfl, rfl⟩, ⟨rfl, by decide⟩, trivial⟩) rfl rfl rfl) (And.intro (fun hf => rfl) (And.intro rfl (And.intro trivial ?_)))))
        repeat refine And.intro (by first | exact fun h => h | exact fun _ => rfl | (intro h; rw [h]; rfl) | omega | (intros; (try dsimp only [Ty.T, Ty.size]); (try simp only [castL_self, Int.toNat_natCast, Int.toNat_zero, Int.toNat_one, true_and, List.length_append, List.length_set, List.length_drop, List.length_take, List.length_replicate, List.length_cons, List.length_nil, Nat.zero_add, Nat.mul_one]); omega) | decide | (intros; simp_all; done) | (intros; simp_all; omega)) ?_
        refine hK62 _ _ ?_
        clear hK62
        refine AWPD.ret (And.intro (.inl rfl) ?_)
        -- result 8
        refine RetD.one ?_
        refine fitB rfl ?_
        rw [hE]
        first | (simp; done) | (simp [he]; done) | (simp [he, castL_self]; done)
    · try dsimp only [Ty.T] at h3
      try simp only [castL_self] at h3
      try simp only [Int.toNat_natCast] at h3
      try simp only [Int.toNat_zero] at h3
      try (first | exact absurd (show (4 : Int) ≠ 0 by decide) h3 | exact absurd he h3; done)
      all_goals
        refine AWPD.skip ?_
        refine hK59 _ _ ?_
        clear hK59
        refine AWPD.seq fun K63 hK63 => ?_
        -- region 19
        refine AWPD.keep [0, 6, 9, 10, 13, 15] rfl ?_
        refine AWPD.region tabOK rfl ?_
        refine Exists.intro _ (Exists.intro _ (And.intro (StepD.call (mix_fn _) rfl rfl rfl) (And.intro rfl (And.intro trivial ?_))))
        refine hK63 _ _ ?_
        clear hK63
        refine AWPD.seq fun K64 hK64 => ?_
        -- region 20
        rw [hV, hBL]
        refine AWPD.keep [6, 9, 10, 12, 13, 15, 16] rfl ?_
        refine AWPD.region tabOK rfl ?_
        repeat refine And.intro (by first | exact fun h => h | exact fun _ => rfl | (intro h; rw [h]; rfl) | omega | (intros; (try dsimp only [Ty.T, Ty.size]); (try simp only [castL_self, Int.toNat_natCast, Int.toNat_zero, Int.toNat_one, true_and, List.length_append, List.length_set, List.length_drop, List.length_take, List.length_replicate, List.length_cons, List.length_nil, Nat.zero_add, Nat.mul_one]); omega) | decide | (intros; simp_all; done) | (intros; simp_all; omega)) ?_
        refine Exists.intro _ (Exists.intro _ (And.intro (fun hg => StepD.callG errG_stays rfl hG0 (error_fn _ _) rfl rfl rfl) (And.intro (fun hf => rfl) (And.intro rfl (And.intro trivial ?_)))))
        repeat refine And.intro (by first | exact fun h => h | exact fun _ => rfl | (intro h; rw [h]; rfl) | omega | (intros; (try dsimp only [Ty.T, Ty.size]); (try simp only [castL_self, Int.toNat_natCast, Int.toNat_zero, Int.toNat_one, true_and, List.length_append, List.length_set, List.length_drop, List.length_take, List.length_replicate, List.length_cons, List.length_nil, Nat.zero_add, Nat.mul_one]); omega) | decide | (intros; simp_all; done) | (intros; simp_all; omega)) ?_
        refine Exists.intro _ (Exists.intro _ (And.intro (fun hg => StepD.call (by first | exact twos_fn (misV l) (misV l) (by omega) | exact LiftsD.fit (twos_fn [] [] (by decide)) ⟨⟨rfl, rfl⟩, ⟨rfl, by decide⟩, trivial⟩) rfl rfl rfl) (And.intro (fun hf => rfl) (And.intro rfl (And.intro trivial ?_)))))
        repeat refine And.intro (by first | exact fun h => h | exact fun _ => rfl | (intro h; rw [h]; rfl) | omega | (intros; (try dsimp only [Ty.T, Ty.size]); (try simp only [castL_self, Int.toNat_natCast, Int.toNat_zero, Int.toNat_one, true_and, List.length_append, List.length_set, List.length_drop, List.length_take, List.length_replicate, List.length_cons, List.length_nil, Nat.zero_add, Nat.mul_one]); omega) | decide | (intros; simp_all; done) | (intros; simp_all; omega)) ?_
        refine hK64 _ _ ?_
        clear hK64
        refine AWPD.ret (And.intro (.inl rfl) ?_)
        -- result 9
        refine RetD.one ?_
        refine fitB rfl ?_
        rw [hE]
        first | (simp; done) | (simp [he]; done) | (simp [he, castL_self]; done)
end Go.Proofs.YtkncfjcmhaaafaaDoor
