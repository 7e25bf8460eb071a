/-
  WALK of between.Views: what is alike to all parts at once.
-/
import Derived.Test.YtndoigkmdcgjfaaDoorQwBv0
namespace Go.Proofs.YtndoigkmdcgjfaaDoor
open Go Go.Qw
set_option maxRecDepth 10000
set_option linter.unusedSimpArgs false
set_option linter.unusedVariables false
set_option linter.unusedSectionVars false
set_option maxHeartbeats 2000000

theorem bviews_fn (P : Int) (A : List Int) (N S : List (List Int)) (f : List Int) : LiftsD Tryd.prog 15 [.agg [.i P, .sl .int A, .sl (.sl .int) N, .sl (.sl .int) S], .sl .int f] (.tup [.sl (.sl .int) (bviewsV P A N S f), .er 81 (polE P A N S f)]) := by
  refine LiftsD.of_body 172 [.tmp 4, .tmp 5] Tryd.func15 rfl Tryd.ntmps15 (by kernel_rfl) rfl rfl fun w0 X0 => ?_
  refine AWPD.seq fun K1 hK1 => ?_
  -- region 0
  refine AWPD.keep [0, 1] rfl ?_
  refine AWPD.region tabOK rfl ?_
  refine hK1 _ _ ?_
  clear hK1
  refine AWPD.seq fun K2 hK2 => ?_
  refine AWPD.seq fun K3 hK3 => ?_
  -- region 1
  refine AWPD.keep [1, 2] rfl ?_
  refine AWPD.region tabOK rfl ?_
  repeat refine And.intro (by first | exact fun h => h | exact fun _ => rfl | (intro h; rw [h]; rfl) | omega | (intros; (try dsimp only [Ty.T, Ty.size]); (try simp only [castL_self, Int.toNat_natCast, Int.toNat_zero, Int.toNat_one, true_and, List.length_append, List.length_set, List.length_drop, List.length_take, List.length_replicate, List.length_cons, List.length_nil, Nat.zero_add, Nat.mul_one]); omega) | decide | (intros; simp_all; done) | (intros; simp_all; omega)) ?_
  refine Exists.intro _ (Exists.intro _ (And.intro (StepD.call (policy_fn _ _ _ _ _) rfl rfl rfl) (And.intro rfl (And.intro trivial ?_))))
  refine hK3 _ _ ?_
  clear hK3
  refine AWPD.seq fun K4 hK4 => ?_
  -- region 2
  refine AWPD.keep [1, 2, 6] rfl ?_
  refine AWPD.region tabOK rfl ?_
  refine hK4 _ _ ?_
  clear hK4
  first | refine AWPD.condP rfl (fun h0 => ?_) (fun h0 => ?_) | refine AWPD.condN rfl (fun h0 => ?_) (fun h0 => ?_) | refine AWPD.condAP rfl (fun h0 => ?_) (fun h0 => ?_) | refine AWPD.condOP rfl (fun h0 => ?_) (fun h0 => ?_) | refine AWPD.condONN rfl (fun h0 => ?_) (fun h0 => ?_) | refine AWPD.condOPN rfl (fun h0 => ?_) (fun h0 => ?_) | refine AWPD.condA rfl (fun h0 => ?_) (fun h0 => ?_) | refine AWPD.condO rfl (fun h0 => ?_) (fun h0 => ?_) | refine AWPD.cond rfl (fun h0 => ?_) (fun h0 => ?_)
  · try dsimp only [Ty.T] at h0
    try simp only [castL_self] at h0
    try simp only [Int.toNat_natCast] at h0
    try simp only [Int.toNat_zero] at h0
    refine AWPD.seq fun K5 hK5 => ?_
    -- region 3
    refine AWPD.keep [6] rfl ?_
    refine AWPD.region tabOK rfl ?_
    refine hK5 _ _ ?_
    clear hK5
    refine AWPD.ret (And.intro (.inl rfl) ?_)
    -- result 0
    exact ⟨fitN rfl (by unfold bviewsV; rw [if_neg h0]) (by decide), fitE rfl rfl⟩
  · try dsimp only [Ty.T] at h0
    try simp only [castL_self] at h0
    try simp only [Int.toNat_natCast] at h0
    try simp only [Int.toNat_zero] at h0
    have he : polE P A N S f = 0 := by simpa using h0
    obtain ⟨hme, gf⟩ := pol_ok he
    have g := mach_good hme
    have hN := g.few
    have hN0 := g.some
    have hA6 := g.acts6
    have hP := g.parts
    have hfl := gf.len
    have hbyA : ∀ a, a < A.length → byA A a < P.toNat := fun a ha => by
      have := g.acts a ha
      unfold byA
      omega
    have hnx : ∀ s a, s < N.length → a < A.length → nx N s a < N.length := fun s a hs ha => (g.nx_lt hs ha).2.2
    refine AWPD.skip ?_
    refine hK2 _ _ ?_
    clear hK2
    refine AWPD.seq fun K6 hK6 => ?_
    -- region 4
    refine AWPD.keep [1, 2] rfl ?_
    refine AWPD.region tabOK rfl ?_
    repeat refine And.intro (by first | exact fun h => h | exact fun _ => rfl | (intro h; rw [h]; rfl) | omega | (intros; (try dsimp only [Ty.T, Ty.size]); (try simp only [castL_self, Int.toNat_natCast, Int.toNat_zero, Int.toNat_one, true_and, List.length_append, List.length_set, List.length_drop, List.length_take, List.length_replicate, List.length_cons, List.length_nil, Nat.zero_add, Nat.mul_one]); omega) | decide | (intros; simp_all; done) | (intros; simp_all; omega)) ?_
    refine Exists.intro _ (Exists.intro _ (And.intro (StepD.makeV tabOK rfl rfl rfl rfl rfl (by omega)) (And.intro rfl (And.intro trivial ?_))))
    refine hK6 _ _ ?_
    clear hK6
    refine AWPD.seq fun K7 hK7 => ?_
    refine AWPD.seq fun K8 hK8 => ?_
    -- region 5
    refine AWPD.keep [1, 2, 7] rfl ?_
    refine AWPD.region tabOK rfl ?_
    refine hK8 _ _ ?_
    clear hK8
    refine AWPD.block ?_
    -- LOOP 0 live [1, 2, 7, 30, 31] changed [31]
    refine AWPD.rows0 (List.replicate P.toNat (.slice none 0 0)) ?_
    refine AWPD.loopK (σ := Nat × List Value × RF) [1, 2, 30] (fun z base => (7, .ob 0) :: (31, .i (z.1 : Int)) :: base) (fun z => [.row 68 .val z.2.1, rowsO z.2.1 (osB N.length P.toNat z.2.2 z.1)]) (fun n z => n + z.1 = P.toNat ∧ z.2.1.length = P.toNat ∧ GoodB P A N f z.2.2 ∧ OneB P A N f z.2.2 z.1 0 0 ∧ ∀ q, z.1 ≤ q → z.2.2 q = id) P.toNat (0, List.replicate P.toNat (.slice none 0 0), fun _ => id) [0, 1] rfl rfl (⟨by omega, by simp, GoodB.id_, OneB.zero, fun _ _ => rfl⟩) (by decide) ⟨⟨rfl, rfl, rfl⟩, (by show rowsC _ _ = rowsC _ _; rw [List.length_replicate, osB_zero N.length P.toNat fun _ => id]), trivial⟩ (by repeat' first | exact True.intro | exact rfl | exact ⟨rfl, rfl⟩ | refine And.intro ?_ ?_) fun n0 z hI0 => ?_
    obtain ⟨p, hd, R⟩ := z
    obtain ⟨hn0, hdl, hgd, hon, hid⟩ := hI0
    dsimp only at hn0 hdl hgd hon hid ⊢
    refine AWPD.seq fun K9 hK9 => ?_
    -- region 6
    refine AWPD.keep [1, 2, 7, 30, 31] rfl ?_
    refine AWPD.region tabOK rfl ?_
    refine hK9 _ _ ?_
    clear hK9
    refine AWPD.seq fun K10 hK10 => ?_
    first | refine AWPD.condP rfl (fun h1 => ?_) (fun h1 => ?_) | refine AWPD.condN rfl (fun h1 => ?_) (fun h1 => ?_) | refine AWPD.condAP rfl (fun h1 => ?_) (fun h1 => ?_) | refine AWPD.condOP rfl (fun h1 => ?_) (fun h1 => ?_) | refine AWPD.condONN rfl (fun h1 => ?_) (fun h1 => ?_) | refine AWPD.condOPN rfl (fun h1 => ?_) (fun h1 => ?_) | refine AWPD.condA rfl (fun h1 => ?_) (fun h1 => ?_) | refine AWPD.condO rfl (fun h1 => ?_) (fun h1 => ?_) | refine AWPD.cond rfl (fun h1 => ?_) (fun h1 => ?_)
    · try dsimp only [Ty.T] at h1
      try simp only [castL_self] at h1
      try simp only [Int.toNat_natCast] at h1
      try simp only [Int.toNat_zero] at h1
      rw [List.length_replicate] at h1
      refine AWPD.skip ?_
      refine hK10 _ _ ?_
      clear hK10
      refine AWPD.seq fun K11 hK11 => ?_
      refine AWPD.block ?_
      refine AWPD.seq fun K12 hK12 => ?_
      -- region 7
      refine AWPD.keep [1, 2, 7, 30, 31] rfl ?_
      refine AWPD.region tabOK rfl ?_
      refine hK12 _ _ ?_
      clear hK12
      refine AWPD.seq fun K13 hK13 => ?_
      -- region 8
      refine AWPD.keep [1, 2, 7, 8, 30, 31] rfl ?_
      refine AWPD.region tabOK rfl ?_
      repeat refine And.intro (by first | exact fun h => h | exact fun _ => rfl | (intro h; rw [h]; rfl) | omega | (intros; (try dsimp only [Ty.T, Ty.size]); (try simp only [castL_self, Int.toNat_natCast, Int.toNat_zero, Int.toNat_one, true_and, List.length_append, List.length_set, List.length_drop, List.length_take, List.length_replicate, List.length_cons, List.length_nil, Nat.zero_add, Nat.mul_one]); omega) | decide | (intros; simp_all; done) | (intros; simp_all; omega)) ?_
      refine Exists.intro _ (Exists.intro _ (And.intro (StepD.callN (newGroups_fn (N.length : Int) (by omega)) rfl rfl (by first | exact rfl | exact row_free _ _ _)) (And.intro rfl (And.intro trivial ?_))))
      repeat refine And.intro (by first | exact fun h => h | exact fun _ => rfl | (intro h; rw [h]; rfl) | omega | (intros; (try dsimp only [Ty.T, Ty.size]); (try simp only [castL_self, Int.toNat_natCast, Int.toNat_zero, Int.toNat_one, true_and, List.length_append, List.length_set, List.length_drop, List.length_take, List.length_replicate, List.length_cons, List.length_nil, Nat.zero_add, Nat.mul_one]); omega) | decide | (intros; simp_all; done) | (intros; simp_all; omega)) ?_
      refine Exists.intro _ (Exists.intro _ (And.intro (StepD.storeH tabOK rfl rfl rfl rfl (by simp only [Int.toNat_natCast]; omega)) (And.intro rfl (And.intro trivial ?_))))
      refine hK13 _ _ ?_
      clear hK13
      refine AWPD.seq fun K14 hK14 => ?_
      -- region 9
      refine AWPD.exO 2 (grp_new N.length) rfl ?_
      refine AWPD.absorb 0 1 2 p (by decide) (by decide) (by decide) rfl rfl rfl (osB_dead (by omega) (by omega)) (by omega) (flat_cust _) fun x => ?_
      refine AWPD.keep [1, 2, 7, 8, 30, 31] rfl ?_
      refine AWPD.region tabOK rfl ?_
      repeat refine And.intro (by first | exact fun h => h | exact fun _ => rfl | (intro h; rw [h]; rfl) | omega | (intros; (try dsimp only [Ty.T, Ty.size]); (try simp only [castL_self, Int.toNat_natCast, Int.toNat_zero, Int.toNat_one, true_and, List.length_append, List.length_set, List.length_drop, List.length_take, List.length_replicate, List.length_cons, List.length_nil, Nat.zero_add, Nat.mul_one]); omega) | decide | (intros; simp_all; done) | (intros; simp_all; omega)) ?_
      refine hK14 _ _ ?_
      clear hK14
      refine AWPD.block ?_
      -- LOOP 1 live [1, 2, 7, 8, 30, 31, 43, 44] changed [44]
      refine AWPD.loopK (σ := Nat × RF) [1, 2, 8, 30, 31, 43] (fun y base => (7, .ob 0) :: (44, .i (y.1 : Int)) :: base) (fun y => [.row 68 .val (hd.set p x), rowsO (hd.set p x) (osB N.length P.toNat y.2 (p + 1))]) (fun n y => n + y.1 = N.length ∧ GoodB P A N f y.2 ∧ OneB P A N f y.2 p y.1 0 ∧ ∀ q, p < q → y.2 q = id) N.length (0, R) [0, 1] rfl rfl (⟨by omega, hgd, hon, fun q hq => hid q (by omega)⟩) (by decide) ⟨⟨rfl, rfl, rfl⟩, (by show rowsC (hd.set p x) ((osB N.length P.toNat R p).set p (grpO N.length id)) = rowsC _ _; rw [osB_new (hid p (Nat.le_refl _))]), trivial⟩ (by repeat' first | exact True.intro | exact rfl | exact ⟨rfl, rfl⟩ | refine And.intro ?_ ?_) fun n1 y hI1 => ?_
      obtain ⟨s, R1⟩ := y
      obtain ⟨hn1, hg1, ho1, hi1⟩ := hI1
      dsimp only at hn1 hg1 ho1 hi1 ⊢
      refine AWPD.seq fun K15 hK15 => ?_
      -- region 10
      refine AWPD.keep [1, 2, 7, 8, 30, 31, 43, 44] rfl ?_
      refine AWPD.region tabOK rfl ?_
      refine hK15 _ _ ?_
      clear hK15
      refine AWPD.seq fun K16 hK16 => ?_
      first | refine AWPD.condP rfl (fun h2 => ?_) (fun h2 => ?_) | refine AWPD.condN rfl (fun h2 => ?_) (fun h2 => ?_) | refine AWPD.condAP rfl (fun h2 => ?_) (fun h2 => ?_) | refine AWPD.condOP rfl (fun h2 => ?_) (fun h2 => ?_) | refine AWPD.condONN rfl (fun h2 => ?_) (fun h2 => ?_) | refine AWPD.condOPN rfl (fun h2 => ?_) (fun h2 => ?_) | refine AWPD.condA rfl (fun h2 => ?_) (fun h2 => ?_) | refine AWPD.condO rfl (fun h2 => ?_) (fun h2 => ?_) | refine AWPD.cond rfl (fun h2 => ?_) (fun h2 => ?_)
      · try dsimp only [Ty.T] at h2
        try simp only [castL_self] at h2
        try simp only [Int.toNat_natCast] at h2
        try simp only [Int.toNat_zero] at h2
        refine AWPD.skip ?_
        refine hK16 _ _ ?_
        clear hK16
        refine AWPD.seq fun K17 hK17 => ?_
        refine AWPD.block ?_
        refine AWPD.seq fun K18 hK18 => ?_
        -- region 11
        refine AWPD.keep [1, 2, 7, 8, 30, 31, 43, 44] rfl ?_
        refine AWPD.region tabOK rfl ?_
        refine hK18 _ _ ?_
        clear hK18
        refine AWPD.seq fun K19 hK19 => ?_
        -- region 12
        refine AWPD.keep [1, 2, 7, 8, 9, 30, 31, 43, 44] rfl ?_
        refine AWPD.region tabOK rfl ?_
        repeat refine And.intro (by first | exact fun h => h | exact fun _ => rfl | (intro h; rw [h]; rfl) | omega | (intros; (try dsimp only [Ty.T, Ty.size]); (try simp only [castL_self, Int.toNat_natCast, Int.toNat_zero, Int.toNat_one, true_and, List.length_append, List.length_set, List.length_drop, List.length_take, List.length_replicate, List.length_cons, List.length_nil, Nat.zero_add, Nat.mul_one]); omega) | decide | (intros; simp_all; done) | (intros; simp_all; omega)) ?_
        refine hK19 _ _ ?_
        clear hK19
        refine AWPD.block ?_
        -- LOOP 2 live [1, 2, 7, 8, 9, 30, 31, 43, 44, 48, 49, 50] changed [50]
        refine AWPD.loopK (σ := Nat × RF) [1, 2, 8, 9, 30, 31, 43, 44, 48, 49] (fun u base => (7, .ob 0) :: (50, .i (u.1 : Int)) :: base) (fun u => [.row 68 .val (hd.set p x), rowsO (hd.set p x) (osB N.length P.toNat u.2 (p + 1))]) (fun n u => n + u.1 = A.length ∧ GoodB P A N f u.2 ∧ OneB P A N f u.2 p s u.1 ∧ ∀ q, p < q → u.2 q = id) A.length (0, R1) [0, 1] rfl rfl (⟨by omega, hg1, ho1, hi1⟩) (by decide) ⟨⟨rfl, rfl, rfl⟩, rfl, trivial⟩ (by repeat' first | exact True.intro | exact rfl | exact ⟨rfl, rfl⟩ | refine And.intro ?_ ?_) fun n2 u hI2 => ?_
        obtain ⟨a, R2⟩ := u
        obtain ⟨hn2, hg2, ho2, hi2⟩ := hI2
        dsimp only at hn2 hg2 ho2 hi2 ⊢
        refine AWPD.seq fun K20 hK20 => ?_
        -- region 13
        refine AWPD.keep [1, 2, 7, 8, 9, 30, 31, 43, 44, 48, 49, 50] rfl ?_
        refine AWPD.region tabOK rfl ?_
        refine hK20 _ _ ?_
        clear hK20
        refine AWPD.seq fun K21 hK21 => ?_
        first | refine AWPD.condP rfl (fun h3 => ?_) (fun h3 => ?_) | refine AWPD.condN rfl (fun h3 => ?_) (fun h3 => ?_) | refine AWPD.condAP rfl (fun h3 => ?_) (fun h3 => ?_) | refine AWPD.condOP rfl (fun h3 => ?_) (fun h3 => ?_) | refine AWPD.condONN rfl (fun h3 => ?_) (fun h3 => ?_) | refine AWPD.condOPN rfl (fun h3 => ?_) (fun h3 => ?_) | refine AWPD.condA rfl (fun h3 => ?_) (fun h3 => ?_) | refine AWPD.condO rfl (fun h3 => ?_) (fun h3 => ?_) | refine AWPD.cond rfl (fun h3 => ?_) (fun h3 => ?_)
        · try dsimp only [Ty.T] at h3
          try simp only [castL_self] at h3
          try simp only [Int.toNat_natCast] at h3
          try simp only [Int.toNat_zero] at h3
          have hal : a < A.length := by omega
          have hac := g.acts a hal
          have hsl : s < N.length := by omega
          have hxr := g.nx_lt hsl hal
          have hmf := mask_le (gf.mask (A.getD a 0).toNat (by omega)) hP.2
          have hrow := g.rowN _ hsl
          refine AWPD.skip ?_
          refine hK21 _ _ ?_
          clear hK21
          refine AWPD.seq fun K22 hK22 => ?_
          refine AWPD.block ?_
          refine AWPD.seq fun K23 hK23 => ?_
          -- region 14
          refine AWPD.keep [1, 2, 7, 8, 9, 30, 31, 43, 44, 48, 49, 50] rfl ?_
          refine AWPD.region tabOK rfl ?_
          repeat refine And.intro (by first | exact fun h => h | exact fun _ => rfl | (intro h; rw [h]; rfl) | omega | (intros; (try dsimp only [Ty.T, Ty.size]); (try simp only [castL_self, Int.toNat_natCast, Int.toNat_zero, Int.toNat_one, true_and, List.length_append, List.length_set, List.length_drop, List.length_take, List.length_replicate, List.length_cons, List.length_nil, Nat.zero_add, Nat.mul_one]); omega) | decide | (intros; simp_all; done) | (intros; simp_all; omega)) ?_
          refine hK23 _ _ ?_
          clear hK23
          refine AWPD.seq fun K24 hK24 => ?_
          -- region 15
          refine AWPD.keep [1, 2, 7, 8, 9, 10, 11, 30, 31, 43, 44, 48, 49, 50] rfl ?_
          refine AWPD.region tabOK rfl ?_
          repeat refine And.intro (by first | exact fun h => h | exact fun _ => rfl | (intro h; rw [h]; rfl) | omega | (intros; (try dsimp only [Ty.T, Ty.size]); (try simp only [castL_self, Int.toNat_natCast, Int.toNat_zero, Int.toNat_one, true_and, List.length_append, List.length_set, List.length_drop, List.length_take, List.length_replicate, List.length_cons, List.length_nil, Nat.zero_add, Nat.mul_one]); omega) | decide | (intros; simp_all; done) | (intros; simp_all; omega)) ?_
          refine Exists.intro _ (Exists.intro _ (And.intro (StepD.call (has_fn (f.getD (A.getD a 0).toNat 0) (p : Int) (by omega) (by omega)) rfl rfl rfl) (And.intro rfl (And.intro trivial ?_))))
          refine hK24 _ _ ?_
          clear hK24
          first | refine AWPD.cond rfl (fun h4 => ?_) (fun h4 => ?_)
          · try dsimp only [Ty.T] at h4
            try simp only [castL_self] at h4
            try simp only [Int.toNat_natCast] at h4
            try simp only [Int.toNat_zero] at h4
            have hq : qaF A f (p : Int) a = true := h4
            -- region 16
            refine AWPD.keep [1, 2, 7, 8, 9, 10, 30, 31, 43, 44, 48, 49, 50] rfl ?_
            refine AWPD.draw tabOK [13] rfl (by kernel_rfl) ?_
            repeat refine And.intro (by first | exact fun h => h | exact fun _ => rfl | (intro h; rw [h]; rfl) | omega | (intros; (try dsimp only [Ty.T, Ty.size]); (try simp only [castL_self, Int.toNat_natCast, Int.toNat_zero, Int.toNat_one, true_and, List.length_append, List.length_set, List.length_drop, List.length_take, List.length_replicate, List.length_cons, List.length_nil, Nat.zero_add, Nat.mul_one]); omega) | decide | (intros; simp_all; done) | (intros; simp_all; omega)) ?_
            refine Exists.intro _ (Exists.intro _ (And.intro (StepD.callM 1 p (join_grp (s : Int) ((N.getD s []).getD a 0) (by omega) (by omega) (by omega)) (osB_get (by omega) (by omega)) (flat_cust _) (flat_cust _) rfl rfl rfl rfl rfl rfl rfl rfl rfl rfl rfl) (And.intro rfl (And.intro trivial ?_))))
            refine hK22 _ _ ?_
            clear hK22
            -- region 17
            refine AWPD.keep [1, 2, 7, 8, 9, 30, 31, 43, 44, 48, 49, 50] rfl ?_
            refine AWPD.region tabOK rfl ?_
            repeat refine And.intro (by first | exact fun h => h | exact fun _ => rfl | (intro h; rw [h]; rfl) | omega | (intros; (try dsimp only [Ty.T, Ty.size]); (try simp only [castL_self, Int.toNat_natCast, Int.toNat_zero, Int.toNat_one, true_and, List.length_append, List.length_set, List.length_drop, List.length_take, List.length_replicate, List.length_cons, List.length_nil, Nat.zero_add, Nat.mul_one]); omega) | decide | (intros; simp_all; done) | (intros; simp_all; omega)) ?_
            refine ⟨n2 - 1, (a + 1, joinB R2 p s (nx N s a)), [0, 1], by omega, ⟨by omega, hg2.join hsl hxr.2.2 (.one (by omega) hsl hal hq), ho2.yes, fun q hq2 => (updR_other _ (by omega)).trans (hi2 q hq2)⟩, ⟨by decide, rfl⟩, ⟨⟨rfl, rfl, rfl⟩, (by show rowsC (hd.set p x) ((osB N.length P.toNat R2 (p + 1)).set p (grpO N.length (joinR (R2 p) s (nx N s a)))) = rowsC _ _; rw [osB_set (by omega)]; rfl), trivial⟩, ?_⟩
            repeat' first | exact True.intro | exact rfl | exact ⟨rfl, rfl⟩ | refine And.intro ?_ ?_
          · try dsimp only [Ty.T] at h4
            try simp only [castL_self] at h4
            try simp only [Int.toNat_natCast] at h4
            try simp only [Int.toNat_zero] at h4
            have hq : ¬qaF A f (p : Int) a = true := by rw [show qaF A f (p : Int) a = false from h4]; decide
            refine AWPD.skip ?_
            refine hK22 _ _ ?_
            clear hK22
            -- region 17
            refine AWPD.keep [1, 2, 7, 8, 9, 30, 31, 43, 44, 48, 49, 50] rfl ?_
            refine AWPD.region tabOK rfl ?_
            repeat refine And.intro (by first | exact fun h => h | exact fun _ => rfl | (intro h; rw [h]; rfl) | omega | (intros; (try dsimp only [Ty.T, Ty.size]); (try simp only [castL_self, Int.toNat_natCast, Int.toNat_zero, Int.toNat_one, true_and, List.length_append, List.length_set, List.length_drop, List.length_take, List.length_replicate, List.length_cons, List.length_nil, Nat.zero_add, Nat.mul_one]); omega) | decide | (intros; simp_all; done) | (intros; simp_all; omega)) ?_
            refine ⟨n2 - 1, (a + 1, R2), [0, 1], by omega, ⟨by omega, hg2, ho2.no hq, hi2⟩, ⟨by decide, rfl⟩, ⟨⟨rfl, rfl, rfl⟩, rfl, trivial⟩, ?_⟩
            repeat' first | exact True.intro | exact rfl | exact ⟨rfl, rfl⟩ | refine And.intro ?_ ?_
        · try dsimp only [Ty.T] at h3
          try simp only [castL_self] at h3
          try simp only [Int.toNat_natCast] at h3
          try simp only [Int.toNat_zero] at h3
          have hae : a = A.length := by omega
          subst hae
          refine AWPD.exit ?_
          refine hK17 _ _ ?_
          clear hK17
          -- region 18
          refine AWPD.keep [1, 2, 7, 8, 30, 31, 43, 44] rfl ?_
          refine AWPD.region tabOK rfl ?_
          repeat refine And.intro (by first | exact fun h => h | exact fun _ => rfl | (intro h; rw [h]; rfl) | omega | (intros; (try dsimp only [Ty.T, Ty.size]); (try simp only [castL_self, Int.toNat_natCast, Int.toNat_zero, Int.toNat_one, true_and, List.length_append, List.length_set, List.length_drop, List.length_take, List.length_replicate, List.length_cons, List.length_nil, Nat.zero_add, Nat.mul_one]); omega) | decide | (intros; simp_all; done) | (intros; simp_all; omega)) ?_
          refine ⟨n1 - 1, (s + 1, R2), [0, 1], by omega, ⟨by omega, hg2, ho2.nextS, hi2⟩, ⟨by decide, rfl⟩, ⟨⟨rfl, rfl, rfl⟩, rfl, trivial⟩, ?_⟩
          repeat' first | exact True.intro | exact rfl | exact ⟨rfl, rfl⟩ | refine And.intro ?_ ?_
      · try dsimp only [Ty.T] at h2
        try simp only [castL_self] at h2
        try simp only [Int.toNat_natCast] at h2
        try simp only [Int.toNat_zero] at h2
        have hse : s = N.length := by omega
        subst hse
        refine AWPD.exit ?_
        refine hK11 _ _ ?_
        clear hK11
        -- region 19
        refine AWPD.keep [1, 2, 7, 30, 31] rfl ?_
        refine AWPD.region tabOK rfl ?_
        repeat refine And.intro (by first | exact fun h => h | exact fun _ => rfl | (intro h; rw [h]; rfl) | omega | (intros; (try dsimp only [Ty.T, Ty.size]); (try simp only [castL_self, Int.toNat_natCast, Int.toNat_zero, Int.toNat_one, true_and, List.length_append, List.length_set, List.length_drop, List.length_take, List.length_replicate, List.length_cons, List.length_nil, Nat.zero_add, Nat.mul_one]); omega) | decide | (intros; simp_all; done) | (intros; simp_all; omega)) ?_
        refine ⟨n0 - 1, (p + 1, hd.set p x, R1), [0, 1], by omega, ⟨by omega, by simp [hdl], hg1, ho1.nextP, fun q hq => hi1 q (by omega)⟩, ⟨by decide, rfl⟩, ⟨⟨rfl, rfl, rfl⟩, rfl, trivial⟩, ?_⟩
        repeat' first | exact True.intro | exact rfl | exact ⟨rfl, rfl⟩ | refine And.intro ?_ ?_
    · try dsimp only [Ty.T] at h1
      try simp only [castL_self] at h1
      try simp only [Int.toNat_natCast] at h1
      try simp only [Int.toNat_zero] at h1
      rw [List.length_replicate] at h1
      have hpe : p = P.toNat := by omega
      subst hpe
      refine AWPD.exit ?_
      refine hK7 _ _ ?_
      clear hK7
      refine AWPD.seq fun K25 hK25 => ?_
      refine AWPD.seq fun K26 hK26 => ?_
      -- region 20
      refine AWPD.keep [2, 7] rfl ?_
      refine AWPD.region tabOK rfl ?_
      refine hK26 _ _ ?_
      clear hK26
      refine AWPD.block ?_
      -- LOOP 3 live [2, 7, 12] changed [12]
      refine AWPD.freeze 7 rfl rfl rfl ?_
      refine AWPD.loopK (σ := RF × Bool) [2] (fun z3 base => (7, .sl .val hd) :: (12, .b z3.2) :: base) (fun z3 => [rowsO hd (osB N.length P.toNat z3.1 P.toNat)]) (fun n z3 => GoodB P A N f z3.1 ∧ OneB P A N f z3.1 P.toNat 0 0 ∧ ((z3.2 = true ∧ mesB z3.1 N.length P.toNat < n) ∨ (z3.2 = false ∧ DoneB P A N z3.1 P.toNat 0 0 0))) (mesB R N.length P.toNat + 1) (R, true) [1] rfl rfl (⟨hgd, hon, .inl ⟨rfl, Nat.lt_succ_self _⟩⟩) (by decide) ⟨rfl, trivial⟩ (by repeat' first | exact True.intro | exact rfl | exact ⟨rfl, rfl⟩ | refine And.intro ?_ ?_) fun n3 z3 hI3 => ?_
      obtain ⟨R3, b3⟩ := z3
      obtain ⟨hg3, ho3, hst3⟩ := hI3
      dsimp only at hg3 ho3 hst3 ⊢
      refine AWPD.seq fun K27 hK27 => ?_
      refine AWPD.seq fun K28 hK28 => ?_
      -- region 21
      refine AWPD.keep [2, 7, 12] rfl ?_
      refine AWPD.region tabOK rfl ?_
      refine hK28 _ _ ?_
      clear hK28
      first | refine AWPD.cond rfl (fun h5 => ?_) (fun h5 => ?_)
      · try dsimp only [Ty.T] at h5
        try simp only [castL_self] at h5
        try simp only [Int.toNat_natCast] at h5
        try simp only [Int.toNat_zero] at h5
        have hm3 : mesB R3 N.length P.toNat < n3 := by
          rcases hst3 with h | h
          · exact h.2
          · rw [h.1] at h5; cases h5
        refine AWPD.skip ?_
        refine hK27 _ _ ?_
        clear hK27
        refine AWPD.block ?_
        refine AWPD.seq fun K29 hK29 => ?_
        -- region 22
        refine AWPD.keep [2, 7] rfl ?_
        refine AWPD.region tabOK rfl ?_
        refine hK29 _ _ ?_
        clear hK29
        refine AWPD.seq fun K30 hK30 => ?_
        -- region 23
        refine AWPD.keep [2, 7, 12] rfl ?_
        refine AWPD.region tabOK rfl ?_
        refine hK30 _ _ ?_
        clear hK30
        refine AWPD.block ?_
        -- LOOP 4 live [2, 7, 12, 81, 82] changed [12, 82]
        refine AWPD.loopK (σ := Nat × RF × Bool) [2, 7, 81] (fun z4 base => (12, .b z4.2.2) :: (82, .i (z4.1 : Int)) :: base) (fun z4 => [rowsO hd (osB N.length P.toNat z4.2.1 P.toNat)]) (fun n z4 => n + z4.1 = P.toNat ∧ Inv2B P A N f R3 z4.2 z4.1 0 0 0) P.toNat (0, R3, false) [0] rfl rfl (⟨by omega, Inv2B.start hg3 ho3⟩) (by decide) ⟨rfl, trivial⟩ (by repeat' first | exact True.intro | exact rfl | exact ⟨rfl, rfl⟩ | refine And.intro ?_ ?_) fun n4 z4 hI4 => ?_
        obtain ⟨p, R4, b4⟩ := z4
        obtain ⟨hn4, h4i⟩ := hI4
        dsimp only at hn4 h4i ⊢
        refine AWPD.seq fun K31 hK31 => ?_
        -- region 24
        refine AWPD.keep [2, 7, 12, 81, 82] rfl ?_
        refine AWPD.region tabOK rfl ?_
        refine hK31 _ _ ?_
        clear hK31
        refine AWPD.seq fun K32 hK32 => ?_
        first | refine AWPD.condP rfl (fun h6 => ?_) (fun h6 => ?_) | refine AWPD.condN rfl (fun h6 => ?_) (fun h6 => ?_) | refine AWPD.condAP rfl (fun h6 => ?_) (fun h6 => ?_) | refine AWPD.condOP rfl (fun h6 => ?_) (fun h6 => ?_) | refine AWPD.condONN rfl (fun h6 => ?_) (fun h6 => ?_) | refine AWPD.condOPN rfl (fun h6 => ?_) (fun h6 => ?_) | refine AWPD.condA rfl (fun h6 => ?_) (fun h6 => ?_) | refine AWPD.condO rfl (fun h6 => ?_) (fun h6 => ?_) | refine AWPD.cond rfl (fun h6 => ?_) (fun h6 => ?_)
        · try dsimp only [Ty.T] at h6
          try simp only [castL_self] at h6
          try simp only [Int.toNat_natCast] at h6
          try simp only [Int.toNat_zero] at h6
          refine AWPD.skip ?_
          refine hK32 _ _ ?_
          clear hK32
          refine AWPD.seq fun K33 hK33 => ?_
          refine AWPD.block ?_
          refine AWPD.seq fun K34 hK34 => ?_
          -- region 25
          refine AWPD.keep [2, 7, 12, 81, 82] rfl ?_
          refine AWPD.region tabOK rfl ?_
          refine hK34 _ _ ?_
          clear hK34
          refine AWPD.seq fun K35 hK35 => ?_
          -- region 26
          refine AWPD.keep [2, 7, 12, 13, 81, 82] rfl ?_
          refine AWPD.region tabOK rfl ?_
          repeat refine And.intro (by first | exact fun h => h | exact fun _ => rfl | (intro h; rw [h]; rfl) | omega | (intros; (try dsimp only [Ty.T, Ty.size]); (try simp only [castL_self, Int.toNat_natCast, Int.toNat_zero, Int.toNat_one, true_and, List.length_append, List.length_set, List.length_drop, List.length_take, List.length_replicate, List.length_cons, List.length_nil, Nat.zero_add, Nat.mul_one]); omega) | decide | (intros; simp_all; done) | (intros; simp_all; omega)) ?_
          refine hK35 _ _ ?_
          clear hK35
          refine AWPD.block ?_
          -- LOOP 5 live [2, 7, 12, 13, 81, 82, 87, 88] changed [12, 88]
          refine AWPD.loopK (σ := Nat × RF × Bool) [2, 7, 13, 81, 82, 87] (fun z5 base => (12, .b z5.2.2) :: (88, .i (z5.1 : Int)) :: base) (fun z5 => [rowsO hd (osB N.length P.toNat z5.2.1 P.toNat)]) (fun n z5 => n + z5.1 = N.length ∧ Inv2B P A N f R3 z5.2 p z5.1 0 0) N.length (0, R4, b4) [0] rfl rfl (⟨by omega, h4i⟩) (by decide) ⟨rfl, trivial⟩ (by repeat' first | exact True.intro | exact rfl | exact ⟨rfl, rfl⟩ | refine And.intro ?_ ?_) fun n5 z5 hI5 => ?_
          obtain ⟨s, R5, b5⟩ := z5
          obtain ⟨hn5, h5i⟩ := hI5
          dsimp only at hn5 h5i ⊢
          refine AWPD.seq fun K36 hK36 => ?_
          -- region 27
          refine AWPD.keep [2, 7, 12, 13, 81, 82, 87, 88] rfl ?_
          refine AWPD.region tabOK rfl ?_
          refine hK36 _ _ ?_
          clear hK36
          refine AWPD.seq fun K37 hK37 => ?_
          first | refine AWPD.condP rfl (fun h7 => ?_) (fun h7 => ?_) | refine AWPD.condN rfl (fun h7 => ?_) (fun h7 => ?_) | refine AWPD.condAP rfl (fun h7 => ?_) (fun h7 => ?_) | refine AWPD.condOP rfl (fun h7 => ?_) (fun h7 => ?_) | refine AWPD.condONN rfl (fun h7 => ?_) (fun h7 => ?_) | refine AWPD.condOPN rfl (fun h7 => ?_) (fun h7 => ?_) | refine AWPD.condA rfl (fun h7 => ?_) (fun h7 => ?_) | refine AWPD.condO rfl (fun h7 => ?_) (fun h7 => ?_) | refine AWPD.cond rfl (fun h7 => ?_) (fun h7 => ?_)
          · try dsimp only [Ty.T] at h7
            try simp only [castL_self] at h7
            try simp only [Int.toNat_natCast] at h7
            try simp only [Int.toNat_zero] at h7
            refine AWPD.skip ?_
            refine hK37 _ _ ?_
            clear hK37
            refine AWPD.seq fun K38 hK38 => ?_
            refine AWPD.block ?_
            refine AWPD.seq fun K39 hK39 => ?_
            -- region 28
            refine AWPD.keep [2, 7, 12, 13, 81, 82, 87, 88] rfl ?_
            refine AWPD.region tabOK rfl ?_
            refine hK39 _ _ ?_
            clear hK39
            refine AWPD.seq fun K40 hK40 => ?_
            -- region 29
            refine AWPD.keep [2, 7, 12, 13, 14, 81, 82, 87, 88] rfl ?_
            refine AWPD.region tabOK rfl ?_
            refine hK40 _ _ ?_
            clear hK40
            refine AWPD.block ?_
            -- LOOP 6 live [2, 7, 12, 13, 14, 81, 82, 87, 88, 91, 92] changed [12, 92]
            refine AWPD.loopK (σ := Nat × RF × Bool) [2, 7, 13, 14, 81, 82, 87, 88, 91] (fun z6 base => (12, .b z6.2.2) :: (92, .i (z6.1 : Int)) :: base) (fun z6 => [rowsO hd (osB N.length P.toNat z6.2.1 P.toNat)]) (fun n z6 => n + z6.1 = s ∧ Inv2B P A N f R3 z6.2 p s z6.1 0) s (0, R5, b5) [0] rfl rfl (⟨by omega, h5i⟩) (by decide) ⟨rfl, trivial⟩ (by repeat' first | exact True.intro | exact rfl | exact ⟨rfl, rfl⟩ | refine And.intro ?_ ?_) fun n6 z6 hI6 => ?_
            obtain ⟨t, R6, b6⟩ := z6
            obtain ⟨hn6, h6i⟩ := hI6
            dsimp only at hn6 h6i ⊢
            refine AWPD.seq fun K41 hK41 => ?_
            -- region 30
            refine AWPD.keep [2, 7, 12, 13, 14, 81, 82, 87, 88, 91, 92] rfl ?_
            refine AWPD.region tabOK rfl ?_
            refine hK41 _ _ ?_
            clear hK41
            refine AWPD.seq fun K42 hK42 => ?_
            first | refine AWPD.condP rfl (fun h8 => ?_) (fun h8 => ?_) | refine AWPD.condN rfl (fun h8 => ?_) (fun h8 => ?_) | refine AWPD.condAP rfl (fun h8 => ?_) (fun h8 => ?_) | refine AWPD.condOP rfl (fun h8 => ?_) (fun h8 => ?_) | refine AWPD.condONN rfl (fun h8 => ?_) (fun h8 => ?_) | refine AWPD.condOPN rfl (fun h8 => ?_) (fun h8 => ?_) | refine AWPD.condA rfl (fun h8 => ?_) (fun h8 => ?_) | refine AWPD.condO rfl (fun h8 => ?_) (fun h8 => ?_) | refine AWPD.cond rfl (fun h8 => ?_) (fun h8 => ?_)
            · try dsimp only [Ty.T] at h8
              try simp only [castL_self] at h8
              try simp only [Int.toNat_natCast] at h8
              try simp only [Int.toNat_zero] at h8
              have htl : t < N.length := by omega
              have hsl : s < N.length := by omega
              refine AWPD.skip ?_
              refine hK42 _ _ ?_
              clear hK42
              refine AWPD.seq fun K43 hK43 => ?_
              refine AWPD.block ?_
              refine AWPD.seq fun K44 hK44 => ?_
              -- region 31
              refine AWPD.keep [2, 7, 12, 13, 14, 81, 82, 87, 88, 91, 92] rfl ?_
              refine AWPD.region tabOK rfl ?_
              refine hK44 _ _ ?_
              clear hK44
              refine AWPD.seq fun K45 hK45 => ?_
              refine AWPD.seq fun K46 hK46 => ?_
              -- region 32
              refine AWPD.keep [2, 7, 12, 13, 14, 15, 81, 82, 87, 88, 91, 92] rfl ?_
              refine AWPD.draw tabOK [] rfl (by kernel_rfl) ?_
              repeat refine And.intro (by first | exact fun h => h | exact fun _ => rfl | (intro h; rw [h]; rfl) | omega | (intros; (try dsimp only [Ty.T, Ty.size]); (try simp only [castL_self, Int.toNat_natCast, Int.toNat_zero, Int.toNat_one, true_and, List.length_append, List.length_set, List.length_drop, List.length_take, List.length_replicate, List.length_cons, List.length_nil, Nat.zero_add, Nat.mul_one]); omega) | decide | (intros; simp_all; done) | (intros; simp_all; omega)) ?_
              refine Exists.intro _ (Exists.intro _ (And.intro (StepD.callMr 0 p (find_grp (s : Int) (by omega) (by omega)) (osB_get (by omega) (by omega)) (flat_cust _) rfl rfl rfl rfl rfl rfl rfl rfl rfl rfl) (And.intro rfl (And.intro rfl ?_))))
              repeat refine And.intro (by first | exact fun h => h | exact fun _ => rfl | (intro h; rw [h]; rfl) | omega | (intros; (try dsimp only [Ty.T, Ty.size]); (try simp only [castL_self, Int.toNat_natCast, Int.toNat_zero, Int.toNat_one, true_and, List.length_append, List.length_set, List.length_drop, List.length_take, List.length_replicate, List.length_cons, List.length_nil, Nat.zero_add, Nat.mul_one]); omega) | decide | (intros; simp_all; done) | (intros; simp_all; omega)) ?_
              refine Exists.intro _ (Exists.intro _ (And.intro (StepD.callMr 0 p (find_grp (t : Int) (by omega) (by omega)) (osB_get (by omega) (by omega)) (flat_cust _) rfl rfl rfl rfl rfl rfl rfl rfl rfl rfl) (And.intro rfl (And.intro rfl ?_))))
              refine hK46 _ _ ?_
              clear hK46
              first | refine AWPD.condP rfl (fun h9 => ?_) (fun h9 => ?_) | refine AWPD.condN rfl (fun h9 => ?_) (fun h9 => ?_) | refine AWPD.condAP rfl (fun h9 => ?_) (fun h9 => ?_) | refine AWPD.condOP rfl (fun h9 => ?_) (fun h9 => ?_) | refine AWPD.condONN rfl (fun h9 => ?_) (fun h9 => ?_) | refine AWPD.condOPN rfl (fun h9 => ?_) (fun h9 => ?_) | refine AWPD.condA rfl (fun h9 => ?_) (fun h9 => ?_) | refine AWPD.condO rfl (fun h9 => ?_) (fun h9 => ?_) | refine AWPD.cond rfl (fun h9 => ?_) (fun h9 => ?_)
              · try dsimp only [Ty.T] at h9
                try simp only [castL_self] at h9
                try simp only [Int.toNat_natCast] at h9
                try simp only [Int.toNat_zero] at h9
                have hne : R6 p s ≠ R6 p t := by omega
                refine AWPD.exit ?_
                refine hK43 _ _ ?_
                clear hK43
                -- region 39
                refine AWPD.keep [2, 7, 12, 13, 14, 81, 82, 87, 88, 91, 92] rfl ?_
                refine AWPD.region tabOK rfl ?_
                repeat refine And.intro (by first | exact fun h => h | exact fun _ => rfl | (intro h; rw [h]; rfl) | omega | (intros; (try dsimp only [Ty.T, Ty.size]); (try simp only [castL_self, Int.toNat_natCast, Int.toNat_zero, Int.toNat_one, true_and, List.length_append, List.length_set, List.length_drop, List.length_take, List.length_replicate, List.length_cons, List.length_nil, Nat.zero_add, Nat.mul_one]); omega) | decide | (intros; simp_all; done) | (intros; simp_all; omega)) ?_
                refine ⟨n6 - 1, (t + 1, R6, b6), [0], by omega, ⟨by omega, h6i.skip hne⟩, ⟨by decide, rfl⟩, ⟨rfl, trivial⟩, ?_⟩
                repeat' first | exact True.intro | exact rfl | exact ⟨rfl, rfl⟩ | refine And.intro ?_ ?_
              · try dsimp only [Ty.T] at h9
                try simp only [castL_self] at h9
                try simp only [Int.toNat_natCast] at h9
                try simp only [Int.toNat_zero] at h9
                have heq : R6 p s = R6 p t := by omega
                refine AWPD.skip ?_
                refine hK45 _ _ ?_
                clear hK45
                refine AWPD.seq fun K47 hK47 => ?_
                -- region 33
                refine AWPD.keep [2, 7, 12, 13, 14, 15, 81, 82, 87, 88, 91, 92] rfl ?_
                refine AWPD.region tabOK rfl ?_
                repeat refine And.intro (by first | exact fun h => h | exact fun _ => rfl | (intro h; rw [h]; rfl) | omega | (intros; (try dsimp only [Ty.T, Ty.size]); (try simp only [castL_self, Int.toNat_natCast, Int.toNat_zero, Int.toNat_one, true_and, List.length_append, List.length_set, List.length_drop, List.length_take, List.length_replicate, List.length_cons, List.length_nil, Nat.zero_add, Nat.mul_one]); omega) | decide | (intros; simp_all; done) | (intros; simp_all; omega)) ?_
                refine hK47 _ _ ?_
                clear hK47
                refine AWPD.block ?_
                -- LOOP 7 live [2, 7, 12, 13, 14, 15, 81, 82, 87, 88, 91, 92, 109, 110, 111] changed [12, 111]
                refine AWPD.loopK (σ := Nat × RF × Bool) [2, 7, 13, 14, 15, 81, 82, 87, 88, 91, 92, 109, 110] (fun z7 base => (12, .b z7.2.2) :: (111, .i (z7.1 : Int)) :: base) (fun z7 => [rowsO hd (osB N.length P.toNat z7.2.1 P.toNat)]) (fun n z7 => n + z7.1 = A.length ∧ Inv2B P A N f R3 z7.2 p s t z7.1 ∧ z7.2.1 p s = z7.2.1 p t) A.length (0, R6, b6) [0] rfl rfl (⟨by omega, h6i, heq⟩) (by decide) ⟨rfl, trivial⟩ (by repeat' first | exact True.intro | exact rfl | exact ⟨rfl, rfl⟩ | refine And.intro ?_ ?_) fun n7 z7 hI7 => ?_
                obtain ⟨a, R7, b7⟩ := z7
                obtain ⟨hn7, h7i, h7e⟩ := hI7
                dsimp only at hn7 h7i h7e ⊢
                refine AWPD.seq fun K48 hK48 => ?_
                -- region 34
                refine AWPD.keep [2, 7, 12, 13, 14, 15, 81, 82, 87, 88, 91, 92, 109, 110, 111] rfl ?_
                refine AWPD.region tabOK rfl ?_
                refine hK48 _ _ ?_
                clear hK48
                refine AWPD.seq fun K49 hK49 => ?_
                first | refine AWPD.condP rfl (fun h10 => ?_) (fun h10 => ?_) | refine AWPD.condN rfl (fun h10 => ?_) (fun h10 => ?_) | refine AWPD.condAP rfl (fun h10 => ?_) (fun h10 => ?_) | refine AWPD.condOP rfl (fun h10 => ?_) (fun h10 => ?_) | refine AWPD.condONN rfl (fun h10 => ?_) (fun h10 => ?_) | refine AWPD.condOPN rfl (fun h10 => ?_) (fun h10 => ?_) | refine AWPD.condA rfl (fun h10 => ?_) (fun h10 => ?_) | refine AWPD.condO rfl (fun h10 => ?_) (fun h10 => ?_) | refine AWPD.cond rfl (fun h10 => ?_) (fun h10 => ?_)
                · try dsimp only [Ty.T] at h10
                  try simp only [castL_self] at h10
                  try simp only [Int.toNat_natCast] at h10
                  try simp only [Int.toNat_zero] at h10
                  have hal : a < A.length := by omega
                  have hac := g.acts a hal
                  have hba := hbyA a hal
                  have hx1 := g.nx_lt hsl hal
                  have hx2 := g.nx_lt htl hal
                  have hrow1 := g.rowN _ hsl
                  have hrow2 := g.rowN _ htl
                  refine AWPD.skip ?_
                  refine hK49 _ _ ?_
                  clear hK49
                  refine AWPD.seq fun K50 hK50 => ?_
                  refine AWPD.block ?_
                  refine AWPD.seq fun K51 hK51 => ?_
                  -- region 35
                  refine AWPD.keep [2, 7, 12, 13, 14, 15, 81, 82, 87, 88, 91, 92, 109, 110, 111] rfl ?_
                  refine AWPD.region tabOK rfl ?_
                  repeat refine And.intro (by first | exact fun h => h | exact fun _ => rfl | (intro h; rw [h]; rfl) | omega | (intros; (try dsimp only [Ty.T, Ty.size]); (try simp only [castL_self, Int.toNat_natCast, Int.toNat_zero, Int.toNat_one, true_and, List.length_append, List.length_set, List.length_drop, List.length_take, List.length_replicate, List.length_cons, List.length_nil, Nat.zero_add, Nat.mul_one]); omega) | decide | (intros; simp_all; done) | (intros; simp_all; omega)) ?_
                  refine hK51 _ _ ?_
                  clear hK51
                  refine AWPD.seq fun K52 hK52 => ?_
                  -- region 36
                  refine AWPD.keep [2, 7, 12, 13, 14, 15, 16, 17, 81, 82, 87, 88, 91, 92, 109, 110, 111] rfl ?_
                  refine AWPD.draw tabOK [] rfl (by kernel_rfl) ?_
                  repeat refine And.intro (by first | exact fun h => h | exact fun _ => rfl | (intro h; rw [h]; rfl) | omega | (intros; (try dsimp only [Ty.T, Ty.size]); (try simp only [castL_self, Int.toNat_natCast, Int.toNat_zero, Int.toNat_one, true_and, List.length_append, List.length_set, List.length_drop, List.length_take, List.length_replicate, List.length_cons, List.length_nil, Nat.zero_add, Nat.mul_one]); omega) | decide | (intros; simp_all; done) | (intros; simp_all; omega)) ?_
                  refine Exists.intro _ (Exists.intro _ (And.intro (StepD.callMr 0 (byA A a) (find_grp (s : Int) (by omega) (by omega)) (osB_get (by omega) (by omega)) (flat_cust _) rfl rfl rfl rfl rfl rfl rfl rfl rfl rfl) (And.intro rfl (And.intro rfl ?_))))
                  repeat refine And.intro (by first | exact fun h => h | exact fun _ => rfl | (intro h; rw [h]; rfl) | omega | (intros; (try dsimp only [Ty.T, Ty.size]); (try simp only [castL_self, Int.toNat_natCast, Int.toNat_zero, Int.toNat_one, true_and, List.length_append, List.length_set, List.length_drop, List.length_take, List.length_replicate, List.length_cons, List.length_nil, Nat.zero_add, Nat.mul_one]); omega) | decide | (intros; simp_all; done) | (intros; simp_all; omega)) ?_
                  refine Exists.intro _ (Exists.intro _ (And.intro (StepD.callMr 0 (byA A a) (find_grp (t : Int) (by omega) (by omega)) (osB_get (by omega) (by omega)) (flat_cust _) rfl rfl rfl rfl rfl rfl rfl rfl rfl rfl) (And.intro rfl (And.intro rfl ?_))))
                  refine hK52 _ _ ?_
                  clear hK52
                  first | refine AWPD.condP rfl (fun h11 => ?_) (fun h11 => ?_) | refine AWPD.condN rfl (fun h11 => ?_) (fun h11 => ?_) | refine AWPD.condAP rfl (fun h11 => ?_) (fun h11 => ?_) | refine AWPD.condOP rfl (fun h11 => ?_) (fun h11 => ?_) | refine AWPD.condONN rfl (fun h11 => ?_) (fun h11 => ?_) | refine AWPD.condOPN rfl (fun h11 => ?_) (fun h11 => ?_) | refine AWPD.condA rfl (fun h11 => ?_) (fun h11 => ?_) | refine AWPD.condO rfl (fun h11 => ?_) (fun h11 => ?_) | refine AWPD.cond rfl (fun h11 => ?_) (fun h11 => ?_)
                  · try dsimp only [Ty.T] at h11
                    try simp only [castL_self] at h11
                    try simp only [Int.toNat_natCast] at h11
                    try simp only [Int.toNat_zero] at h11
                    have hby : R7 (byA A a) s = R7 (byA A a) t := by omega
                    -- region 37
                    refine AWPD.keep [2, 7, 12, 13, 14, 15, 16, 81, 82, 87, 88, 91, 92, 109, 110, 111] rfl ?_
                    refine AWPD.draw tabOK [20] rfl (by kernel_rfl) ?_
                    repeat refine And.intro (by first | exact fun h => h | exact fun _ => rfl | (intro h; rw [h]; rfl) | omega | (intros; (try dsimp only [Ty.T, Ty.size]); (try simp only [castL_self, Int.toNat_natCast, Int.toNat_zero, Int.toNat_one, true_and, List.length_append, List.length_set, List.length_drop, List.length_take, List.length_replicate, List.length_cons, List.length_nil, Nat.zero_add, Nat.mul_one]); omega) | decide | (intros; simp_all; done) | (intros; simp_all; omega)) ?_
                    refine Exists.intro _ (Exists.intro _ (And.intro (StepD.callM 0 p (join_grp ((N.getD s []).getD a 0) ((N.getD t []).getD a 0) (by omega) (by omega) (by omega)) (osB_get (by omega) (by omega)) (flat_cust _) (flat_cust _) rfl rfl rfl rfl rfl rfl rfl rfl rfl rfl rfl) (And.intro rfl (And.intro trivial ?_))))
                    repeat refine And.intro (by first | exact fun h => h | exact fun _ => rfl | (intro h; rw [h]; rfl) | omega | (intros; (try dsimp only [Ty.T, Ty.size]); (try simp only [castL_self, Int.toNat_natCast, Int.toNat_zero, Int.toNat_one, true_and, List.length_append, List.length_set, List.length_drop, List.length_take, List.length_replicate, List.length_cons, List.length_nil, Nat.zero_add, Nat.mul_one]); omega) | decide | (intros; simp_all; done) | (intros; simp_all; omega)) ?_
                    refine hK50 _ _ ?_
                    clear hK50
                    -- region 38
                    refine AWPD.keep [2, 7, 12, 13, 14, 15, 81, 82, 87, 88, 91, 92, 109, 110, 111] rfl ?_
                    refine AWPD.region tabOK rfl ?_
                    repeat refine And.intro (by first | exact fun h => h | exact fun _ => rfl | (intro h; rw [h]; rfl) | omega | (intros; (try dsimp only [Ty.T, Ty.size]); (try simp only [castL_self, Int.toNat_natCast, Int.toNat_zero, Int.toNat_one, true_and, List.length_append, List.length_set, List.length_drop, List.length_take, List.length_replicate, List.length_cons, List.length_nil, Nat.zero_add, Nat.mul_one]); omega) | decide | (intros; simp_all; done) | (intros; simp_all; omega)) ?_
                    refine ⟨n7 - 1, (a + 1, stB (R7, b7) p (nx N s a) (nx N t a)), [0], by omega, ⟨by omega, h7i.yes (by omega) hsl htl hal hx1.2.2 hx2.2.2 hba h7e hby, joinB_keep h7e⟩, ⟨by decide, rfl⟩, ⟨(by show rowsC hd ((osB N.length P.toNat R7 P.toNat).set p (grpO N.length (joinR (R7 p) (nx N s a) (nx N t a)))) = rowsC _ _; rw [osB_set (by omega)]; rfl), trivial⟩, ?_⟩
                    repeat' first | exact True.intro | exact rfl | exact ⟨rfl, rfl⟩ | refine And.intro ?_ ?_
                  · try dsimp only [Ty.T] at h11
                    try simp only [castL_self] at h11
                    try simp only [Int.toNat_natCast] at h11
                    try simp only [Int.toNat_zero] at h11
                    have hby : R7 (byA A a) s ≠ R7 (byA A a) t := by omega
                    refine AWPD.skip ?_
                    refine hK50 _ _ ?_
                    clear hK50
                    -- region 38
                    refine AWPD.keep [2, 7, 12, 13, 14, 15, 81, 82, 87, 88, 91, 92, 109, 110, 111] rfl ?_
                    refine AWPD.region tabOK rfl ?_
                    repeat refine And.intro (by first | exact fun h => h | exact fun _ => rfl | (intro h; rw [h]; rfl) | omega | (intros; (try dsimp only [Ty.T, Ty.size]); (try simp only [castL_self, Int.toNat_natCast, Int.toNat_zero, Int.toNat_one, true_and, List.length_append, List.length_set, List.length_drop, List.length_take, List.length_replicate, List.length_cons, List.length_nil, Nat.zero_add, Nat.mul_one]); omega) | decide | (intros; simp_all; done) | (intros; simp_all; omega)) ?_
                    refine ⟨n7 - 1, (a + 1, R7, b7), [0], by omega, ⟨by omega, h7i.no hby, h7e⟩, ⟨by decide, rfl⟩, ⟨rfl, trivial⟩, ?_⟩
                    repeat' first | exact True.intro | exact rfl | exact ⟨rfl, rfl⟩ | refine And.intro ?_ ?_
                · try dsimp only [Ty.T] at h10
                  try simp only [castL_self] at h10
                  try simp only [Int.toNat_natCast] at h10
                  try simp only [Int.toNat_zero] at h10
                  have hae : a = A.length := by omega
                  subst hae
                  refine AWPD.exit ?_
                  refine hK43 _ _ ?_
                  clear hK43
                  -- region 39
                  refine AWPD.keep [2, 7, 12, 13, 14, 81, 82, 87, 88, 91, 92] rfl ?_
                  refine AWPD.region tabOK rfl ?_
                  repeat refine And.intro (by first | exact fun h => h | exact fun _ => rfl | (intro h; rw [h]; rfl) | omega | (intros; (try dsimp only [Ty.T, Ty.size]); (try simp only [castL_self, Int.toNat_natCast, Int.toNat_zero, Int.toNat_one, true_and, List.length_append, List.length_set, List.length_drop, List.length_take, List.length_replicate, List.length_cons, List.length_nil, Nat.zero_add, Nat.mul_one]); omega) | decide | (intros; simp_all; done) | (intros; simp_all; omega)) ?_
                  refine ⟨n6 - 1, (t + 1, R7, b7), [0], by omega, ⟨by omega, h7i.nextT⟩, ⟨by decide, rfl⟩, ⟨rfl, trivial⟩, ?_⟩
                  repeat' first | exact True.intro | exact rfl | exact ⟨rfl, rfl⟩ | refine And.intro ?_ ?_
            · try dsimp only [Ty.T] at h8
              try simp only [castL_self] at h8
              try simp only [Int.toNat_natCast] at h8
              try simp only [Int.toNat_zero] at h8
              have hte : s = t := by omega
              subst hte
              refine AWPD.exit ?_
              refine hK38 _ _ ?_
              clear hK38
              -- region 40
              refine AWPD.keep [2, 7, 12, 13, 81, 82, 87, 88] rfl ?_
              refine AWPD.region tabOK rfl ?_
              repeat refine And.intro (by first | exact fun h => h | exact fun _ => rfl | (intro h; rw [h]; rfl) | omega | (intros; (try dsimp only [Ty.T, Ty.size]); (try simp only [castL_self, Int.toNat_natCast, Int.toNat_zero, Int.toNat_one, true_and, List.length_append, List.length_set, List.length_drop, List.length_take, List.length_replicate, List.length_cons, List.length_nil, Nat.zero_add, Nat.mul_one]); omega) | decide | (intros; simp_all; done) | (intros; simp_all; omega)) ?_
              refine ⟨n5 - 1, (s + 1, R6, b6), [0], by omega, ⟨by omega, h6i.nextS⟩, ⟨by decide, rfl⟩, ⟨rfl, trivial⟩, ?_⟩
              repeat' first | exact True.intro | exact rfl | exact ⟨rfl, rfl⟩ | refine And.intro ?_ ?_
          · try dsimp only [Ty.T] at h7
            try simp only [castL_self] at h7
            try simp only [Int.toNat_natCast] at h7
            try simp only [Int.toNat_zero] at h7
            have hse : s = N.length := by omega
            subst hse
            refine AWPD.exit ?_
            refine hK33 _ _ ?_
            clear hK33
            -- region 41
            refine AWPD.keep [2, 7, 12, 81, 82] rfl ?_
            refine AWPD.region tabOK rfl ?_
            repeat refine And.intro (by first | exact fun h => h | exact fun _ => rfl | (intro h; rw [h]; rfl) | omega | (intros; (try dsimp only [Ty.T, Ty.size]); (try simp only [castL_self, Int.toNat_natCast, Int.toNat_zero, Int.toNat_one, true_and, List.length_append, List.length_set, List.length_drop, List.length_take, List.length_replicate, List.length_cons, List.length_nil, Nat.zero_add, Nat.mul_one]); omega) | decide | (intros; simp_all; done) | (intros; simp_all; omega)) ?_
            refine ⟨n4 - 1, (p + 1, R5, b5), [0], by omega, ⟨by omega, h5i.nextP⟩, ⟨by decide, rfl⟩, ⟨rfl, trivial⟩, ?_⟩
            repeat' first | exact True.intro | exact rfl | exact ⟨rfl, rfl⟩ | refine And.intro ?_ ?_
        · try dsimp only [Ty.T] at h6
          try simp only [castL_self] at h6
          try simp only [Int.toNat_natCast] at h6
          try simp only [Int.toNat_zero] at h6
          have hpe : p = P.toNat := by omega
          subst hpe
          refine AWPD.exit ?_
          refine ⟨n3 - 1, (R4, b4), [0], by omega, ⟨h4i.good, h4i.one, by
                rcases h4i.st with ⟨e1, e2, e3⟩ | ⟨e1, e2⟩
                · exact .inr ⟨e1, by rw [show R4 = R3 from e2]; exact e3⟩
                · exact .inl ⟨e1, Nat.lt_of_lt_of_le e2 (by omega)⟩⟩, ⟨by decide, rfl⟩, ⟨rfl, trivial⟩, ?_⟩
          repeat' first | exact True.intro | exact rfl | exact ⟨rfl, rfl⟩ | refine And.intro ?_ ?_
      · try dsimp only [Ty.T] at h5
        try simp only [castL_self] at h5
        try simp only [Int.toNat_natCast] at h5
        try simp only [Int.toNat_zero] at h5
        have hfin : FinB P A N f R3 := ⟨hg3, ho3, by
          rcases hst3 with h | h
          · rw [h.1] at h5; cases h5
          · exact h.2⟩
        refine AWPD.exit ?_
        refine hK25 _ _ ?_
        clear hK25
        refine AWPD.seq fun K53 hK53 => ?_
        -- region 42
        refine AWPD.keep [7] rfl ?_
        refine AWPD.region tabOK rfl ?_
        refine hK53 _ _ ?_
        clear hK53
        refine AWPD.seq fun K54 hK54 => ?_
        refine AWPD.seq fun K55 hK55 => ?_
        -- region 43
        refine AWPD.keep [7, 18] rfl ?_
        refine AWPD.region tabOK rfl ?_
        refine hK55 _ _ ?_
        clear hK55
        refine AWPD.block ?_
        -- LOOP 8 live [7, 18, 158, 159] changed [18, 159]
        refine AWPD.nilRow 18 22 (.sl .int) rfl (by decide) ?_
        refine AWPD.loopK (σ := Nat) [7, 158] (fun i base => (18, .ob 1) :: (159, .i (i : Int)) :: base) (fun i => [rowsO hd (osB N.length P.toNat R3 P.toNat), .row 22 (.sl .int) (bvL N.length R3 i)]) (fun n i => n + i = P.toNat) (P.toNat) 0 [0, 1] rfl rfl (by omega) (by decide) ⟨rfl, ⟨rfl, rfl, rfl⟩, trivial⟩ (by repeat' first | exact True.intro | exact rfl | exact ⟨rfl, rfl⟩ | refine And.intro ?_ ?_) fun n8 i hI8 => ?_
        have hn8 := hI8
        refine AWPD.seq fun K56 hK56 => ?_
        -- region 44
        refine AWPD.keep [7, 18, 158, 159] rfl ?_
        refine AWPD.region tabOK rfl ?_
        refine hK56 _ _ ?_
        clear hK56
        refine AWPD.seq fun K57 hK57 => ?_
        first | refine AWPD.condP rfl (fun h12 => ?_) (fun h12 => ?_) | refine AWPD.condN rfl (fun h12 => ?_) (fun h12 => ?_) | refine AWPD.condAP rfl (fun h12 => ?_) (fun h12 => ?_) | refine AWPD.condOP rfl (fun h12 => ?_) (fun h12 => ?_) | refine AWPD.condONN rfl (fun h12 => ?_) (fun h12 => ?_) | refine AWPD.condOPN rfl (fun h12 => ?_) (fun h12 => ?_) | refine AWPD.condA rfl (fun h12 => ?_) (fun h12 => ?_) | refine AWPD.condO rfl (fun h12 => ?_) (fun h12 => ?_) | refine AWPD.cond rfl (fun h12 => ?_) (fun h12 => ?_)
        · try dsimp only [Ty.T] at h12
          try simp only [castL_self] at h12
          try simp only [Int.toNat_natCast] at h12
          try simp only [Int.toNat_zero] at h12
          refine AWPD.skip ?_
          refine hK57 _ _ ?_
          clear hK57
          refine AWPD.seq fun K58 hK58 => ?_
          refine AWPD.block ?_
          refine AWPD.seq fun K59 hK59 => ?_
          -- region 45
          refine AWPD.keep [7, 18, 158, 159] rfl ?_
          refine AWPD.region tabOK rfl ?_
          refine hK59 _ _ ?_
          clear hK59
          -- region 46
          have hbl := bvL_len N.length R3 i
          refine AWPD.keep [7, 18, 19, 158, 159] rfl ?_
          refine AWPD.region tabOK rfl ?_
          repeat refine And.intro (by first | exact fun h => h | exact fun _ => rfl | (intro h; rw [h]; rfl) | omega | (intros; (try dsimp only [Ty.T, Ty.size]); (try simp only [castL_self, Int.toNat_natCast, Int.toNat_zero, Int.toNat_one, true_and, List.length_append, List.length_set, List.length_drop, List.length_take, List.length_replicate, List.length_cons, List.length_nil, Nat.zero_add, Nat.mul_one]); omega) | decide | (intros; simp_all; done) | (intros; simp_all; omega)) ?_
          refine Exists.intro _ (Exists.intro _ (And.intro (StepD.callMr 0 i (names_grp (by omega)) (osB_get (by omega) (by omega)) (flat_cust _) rfl rfl rfl rfl rfl rfl rfl rfl rfl rfl) (And.intro rfl (And.intro trivial ?_))))
          repeat refine And.intro (by first | exact fun h => h | exact fun _ => rfl | (intro h; rw [h]; rfl) | omega | (intros; (try dsimp only [Ty.T, Ty.size]); (try simp only [castL_self, Int.toNat_natCast, Int.toNat_zero, Int.toNat_one, true_and, List.length_append, List.length_set, List.length_drop, List.length_take, List.length_replicate, List.length_cons, List.length_nil, Nat.zero_add, Nat.mul_one]); omega) | decide | (intros; simp_all; done) | (intros; simp_all; omega)) ?_
          refine hK58 _ _ ?_
          clear hK58
          -- region 47
          refine AWPD.keep [7, 18, 158, 159] rfl ?_
          refine AWPD.region tabOK rfl ?_
          repeat refine And.intro (by first | exact fun h => h | exact fun _ => rfl | (intro h; rw [h]; rfl) | omega | (intros; (try dsimp only [Ty.T, Ty.size]); (try simp only [castL_self, Int.toNat_natCast, Int.toNat_zero, Int.toNat_one, true_and, List.length_append, List.length_set, List.length_drop, List.length_take, List.length_replicate, List.length_cons, List.length_nil, Nat.zero_add, Nat.mul_one]); omega) | decide | (intros; simp_all; done) | (intros; simp_all; omega)) ?_
          refine ⟨n8 - 1, i + 1, [0, 2], by omega, by omega, ⟨by decide, rfl⟩, ⟨rfl, ⟨rfl, rfl, bvL_step _ _ _⟩, trivial⟩, ?_⟩
          repeat' first | exact True.intro | exact rfl | exact ⟨rfl, rfl⟩ | refine And.intro ?_ ?_
        · try dsimp only [Ty.T] at h12
          try simp only [castL_self] at h12
          try simp only [Int.toNat_natCast] at h12
          try simp only [Int.toNat_zero] at h12
          refine AWPD.exit ?_
          refine hK54 _ _ ?_
          clear hK54
          refine AWPD.seq fun K60 hK60 => ?_
          -- region 48
          refine AWPD.keep [18] rfl ?_
          refine AWPD.region tabOK rfl ?_
          refine hK60 _ _ ?_
          clear hK60
          refine AWPD.ret (And.intro (.inl rfl) ?_)
          -- result 1
          exact ⟨fitR rfl rfl (by rw [show i = P.toNat by omega]; exact hfin.views hbyA hnx he), fitE rfl he.symm⟩
end Go.Proofs.YtndoigkmdcgjfaaDoor
