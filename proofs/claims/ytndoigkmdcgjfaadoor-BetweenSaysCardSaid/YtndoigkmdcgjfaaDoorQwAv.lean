/-
  WALK of what is alike to all parts at once, as the document has it.
-/
import Derived.Test.YtndoigkmdcgjfaaDoorQwAv0
namespace Go.Proofs.YtndoigkmdcgjfaaDoor
open Go Go.Qw
set_option maxRecDepth 10000
set_option linter.unusedSimpArgs false
set_option linter.unusedVariables false
set_option linter.unusedSectionVars false
set_option maxHeartbeats 4000000

theorem allviews_fn (P : Int) (A : List Int) (N S : List (List Int)) (f : List Int) (he : polE P A N S f = 0) : LiftsD Tryd.prog 42 [.agg [.i P, .sl .int A, .sl (.sl .int) N, .sl (.sl .int) S], .sl .int f] (.sl (.sl .int) (bviewsV P A N S f)) := by
  obtain ⟨hme, gf⟩ := pol_ok he
  have g := mach_good hme
  have hN := g.few
  have hN0 := g.some
  have hA6 := g.acts6
  have hP := g.parts
  have hfl := gf.len
  have hbyA : ∀ a, a < A.length → byA A a < P.toNat := fun a ha => by
    have := g.acts a ha
    unfold byA
    omega
  have hnx : ∀ s a, s < N.length → a < A.length → nx N s a < N.length := fun s a hs ha => (g.nx_lt hs ha).2.2
  refine LiftsD.of_body 155 [.tmp 4] Tryd.func42 rfl Tryd.ntmps42 (by kernel_rfl) rfl rfl fun w0 X0 => ?_
  refine AWPD.seq fun K1 hK1 => ?_
  -- region 0
  refine AWPD.keep [0, 1] rfl ?_
  refine AWPD.region tabOK rfl ?_
  refine hK1 _ _ ?_
  clear hK1
  refine AWPD.seq fun K2 hK2 => ?_
  -- region 1
  refine AWPD.keep [1, 2] rfl ?_
  refine AWPD.region tabOK rfl ?_
  repeat refine And.intro (by first | exact fun h => h | exact fun _ => rfl | (intro h; rw [h]; rfl) | omega | (intros; (try dsimp only [Ty.T, Ty.size]); (try simp only [castL_self, Int.toNat_natCast, Int.toNat_zero, Int.toNat_one, true_and, List.length_append, List.length_set, List.length_drop, List.length_take, List.length_replicate, List.length_cons, List.length_nil, Nat.zero_add, Nat.mul_one]); omega) | decide | (intros; simp_all; done) | (intros; simp_all; omega)) ?_
  refine hK2 _ _ ?_
  clear hK2
  refine AWPD.seq fun K3 hK3 => ?_
  -- region 2
  refine AWPD.keep [1, 2, 5] rfl ?_
  refine AWPD.region tabOK rfl ?_
  refine hK3 _ _ ?_
  clear hK3
  refine AWPD.seq fun K4 hK4 => ?_
  refine AWPD.seq fun K5 hK5 => ?_
  -- region 3
  refine AWPD.keep [1, 2, 5, 6] rfl ?_
  refine AWPD.region tabOK rfl ?_
  refine hK5 _ _ ?_
  clear hK5
  refine AWPD.block ?_
  -- LOOP 0 live [1, 2, 5, 6, 7] changed [6, 7]
  refine AWPD.nilRow 6 22 .val rfl (by decide) ?_
  refine AWPD.rows0 [] ?_
  refine AWPD.loopK (σ := Nat × List Value) [1, 2, 5] (fun z0 base => (6, .ob 0) :: (7, .i (z0.1 : Int)) :: base) (fun z0 => [.row 22 .val z0.2, rowsO z0.2 (osA N.length z0.1 fun _ => id)]) (fun n z0 => n + z0.1 = P.toNat ∧ z0.2.length = z0.1) P.toNat (0, []) [0, 1] rfl rfl (⟨by omega, rfl⟩) (by decide) ⟨⟨rfl, rfl, rfl⟩, rfl, trivial⟩ (by repeat' first | exact True.intro | exact rfl | exact ⟨rfl, rfl⟩ | refine And.intro ?_ ?_) fun n0 z0 hI0 => ?_
  obtain ⟨p, hd⟩ := z0
  obtain ⟨hn0, hdl⟩ := hI0
  dsimp only at hn0 hdl ⊢
  refine AWPD.seq fun K6 hK6 => ?_
  refine AWPD.seq fun K7 hK7 => ?_
  -- region 4
  refine AWPD.keep [1, 2, 5, 6, 7] rfl ?_
  refine AWPD.region tabOK rfl ?_
  repeat refine And.intro (by first | exact fun h => h | exact fun _ => rfl | (intro h; rw [h]; rfl) | omega | (intros; (try dsimp only [Ty.T, Ty.size]); (try simp only [castL_self, Int.toNat_natCast, Int.toNat_zero, Int.toNat_one, true_and, List.length_append, List.length_set, List.length_drop, List.length_take, List.length_replicate, List.length_cons, List.length_nil, Nat.zero_add, Nat.mul_one]); omega) | decide | (intros; simp_all; done) | (intros; simp_all; omega)) ?_
  refine hK7 _ _ ?_
  clear hK7
  first | refine AWPD.condP rfl (fun h0 => ?_) (fun h0 => ?_) | refine AWPD.condN rfl (fun h0 => ?_) (fun h0 => ?_) | refine AWPD.condAP rfl (fun h0 => ?_) (fun h0 => ?_) | refine AWPD.condOP rfl (fun h0 => ?_) (fun h0 => ?_) | refine AWPD.condONN rfl (fun h0 => ?_) (fun h0 => ?_) | refine AWPD.condOPN rfl (fun h0 => ?_) (fun h0 => ?_) | refine AWPD.condA rfl (fun h0 => ?_) (fun h0 => ?_) | refine AWPD.condO rfl (fun h0 => ?_) (fun h0 => ?_) | refine AWPD.cond rfl (fun h0 => ?_) (fun h0 => ?_)
  · try dsimp only [Ty.T] at h0
    try simp only [castL_self] at h0
    try simp only [Int.toNat_natCast] at h0
    try simp only [Int.toNat_zero] at h0
    have hpl : p < P.toNat := by omega
    refine AWPD.skip ?_
    refine hK6 _ _ ?_
    clear hK6
    refine AWPD.seq fun K8 hK8 => ?_
    refine AWPD.block ?_
    -- region 6
    refine AWPD.keep [1, 2, 5, 6, 7] rfl ?_
    refine AWPD.region tabOK rfl ?_
    refine Exists.intro _ (Exists.intro _ (And.intro (StepD.callN (each3_fn (N.length : Int) (by omega)) rfl rfl (by first | exact rfl | exact row_free _ _ _)) (And.intro rfl (And.intro trivial ?_))))
    refine Exists.intro _ (Exists.intro _ (And.intro (StepD.buildH tabOK rfl rfl rfl rfl) (And.intro rfl (And.intro trivial ?_))))
    refine Exists.intro _ (Exists.intro _ (And.intro (StepD.appendH tabOK rfl rfl rfl rfl rfl (by omega)) (And.intro rfl (And.intro trivial ?_))))
    refine hK8 _ _ ?_
    clear hK8
    -- region 5
    refine AWPD.holeM 1 (.slice none 0 0) rfl ?_
    refine AWPD.absorb (xs := hd ++ [(.slice none 0 0 : Value)]) (os := osA N.length p (fun _ => id) ++ [OD.dead]) 3 1 2 hd.length (by decide) (by decide) (by decide) rfl rfl rfl (by rw [hdl]; exact osA_dead _ _ _) (by simp) (flat_int _) fun x => ?_
    refine AWPD.keep [1, 2, 5, 6, 7] rfl ?_
    refine AWPD.region tabOK rfl ?_
    repeat refine And.intro (by first | exact fun h => h | exact fun _ => rfl | (intro h; rw [h]; rfl) | omega | (intros; (try dsimp only [Ty.T, Ty.size]); (try simp only [castL_self, Int.toNat_natCast, Int.toNat_zero, Int.toNat_one, true_and, List.length_append, List.length_set, List.length_drop, List.length_take, List.length_replicate, List.length_cons, List.length_nil, Nat.zero_add, Nat.mul_one]); omega) | decide | (intros; simp_all; done) | (intros; simp_all; omega)) ?_
    refine ⟨n0 - 1, (p + 1, (hd ++ [(.slice none 0 0 : Value)]).set hd.length x), [3, 1], by omega, ⟨by omega, by simp [hdl]⟩, ⟨by decide, rfl⟩, ⟨⟨rfl, rfl, rfl⟩, (by show rowsC _ ((osA N.length p (fun _ => id) ++ [OD.dead]).set hd.length (.row _ .int (labL N.length id))) = rowsC _ _; rw [hdl, osA_next]), trivial⟩, ?_⟩
    repeat' first | exact True.intro | exact rfl | exact ⟨rfl, rfl⟩ | refine And.intro ?_ ?_
  · try dsimp only [Ty.T] at h0
    try simp only [castL_self] at h0
    try simp only [Int.toNat_natCast] at h0
    try simp only [Int.toNat_zero] at h0
    have hpe : p = P.toNat := by omega
    subst hpe
    refine AWPD.exit ?_
    refine hK4 _ _ ?_
    clear hK4
    refine AWPD.seq fun K9 hK9 => ?_
    -- region 7
    refine AWPD.keep [1, 2, 5, 6] rfl ?_
    refine AWPD.region tabOK rfl ?_
    refine hK9 _ _ ?_
    clear hK9
    refine AWPD.seq fun K10 hK10 => ?_
    refine AWPD.block ?_
    -- LOOP 1 live [1, 2, 5, 6, 8] changed [8]
    refine AWPD.freeze 6 rfl rfl rfl ?_
    refine AWPD.loopK (σ := RF × Bool) [1, 2, 5] (fun z1 base => (6, .sl .val hd) :: (8, .b z1.2) :: base) (fun z1 => [rowsO hd (osA N.length P.toNat z1.1)]) (fun n z1 => GoodA P A N f z1.1 ∧ ((z1.2 = true ∧ mesB z1.1 N.length P.toNat < n) ∨ (z1.2 = false ∧ OneA P A N f z1.1 P.toNat 0 0 0 ∧ TwoA P A N z1.1 P.toNat 0 0 0))) (mesB (fun _ => id) N.length P.toNat + 1) ((fun _ => id), true) [1] rfl rfl (⟨GoodA.id_, .inl ⟨rfl, Nat.lt_succ_self _⟩⟩) (by decide) ⟨rfl, trivial⟩ (by repeat' first | exact True.intro | exact rfl | exact ⟨rfl, rfl⟩ | refine And.intro ?_ ?_) fun n1 z1 hI1 => ?_
    obtain ⟨R1, b1⟩ := z1
    obtain ⟨hg1, hst1⟩ := hI1
    dsimp only at hg1 hst1 ⊢
    refine AWPD.seq fun K11 hK11 => ?_
    refine AWPD.seq fun K12 hK12 => ?_
    -- region 8
    refine AWPD.keep [1, 2, 5, 6, 8] rfl ?_
    refine AWPD.region tabOK rfl ?_
    refine hK12 _ _ ?_
    clear hK12
    first | refine AWPD.cond rfl (fun h1 => ?_) (fun h1 => ?_)
    · try dsimp only [Ty.T] at h1
      try simp only [castL_self] at h1
      try simp only [Int.toNat_natCast] at h1
      try simp only [Int.toNat_zero] at h1
      have hm1 : mesB R1 N.length P.toNat < n1 := by
        rcases hst1 with h | h
        · exact h.2
        · rw [h.1] at h1; cases h1
      refine AWPD.skip ?_
      refine hK11 _ _ ?_
      clear hK11
      refine AWPD.block ?_
      refine AWPD.seq fun K13 hK13 => ?_
      -- region 9
      refine AWPD.keep [1, 2, 5, 6] rfl ?_
      refine AWPD.region tabOK rfl ?_
      refine hK13 _ _ ?_
      clear hK13
      refine AWPD.seq fun K14 hK14 => ?_
      -- region 10
      refine AWPD.keep [1, 2, 5, 6, 8] rfl ?_
      refine AWPD.region tabOK rfl ?_
      refine hK14 _ _ ?_
      clear hK14
      refine AWPD.block ?_
      -- LOOP 2 live [1, 2, 5, 6, 8, 9] changed [8, 9]
      refine AWPD.loopK (σ := Nat × RF × Bool) [1, 2, 5] (fun z2 base => (6, .sl .val hd) :: (8, .b z2.2.2) :: (9, .i (z2.1 : Int)) :: base) (fun z2 => [rowsO hd (osA N.length P.toNat z2.2.1)]) (fun n z2 => n + z2.1 = P.toNat ∧ InvA P A N f R1 z2.2 z2.1 0 0 0) P.toNat (0, R1, false) [0] rfl rfl (⟨by omega, InvA.start hg1⟩) (by decide) ⟨rfl, trivial⟩ (by repeat' first | exact True.intro | exact rfl | exact ⟨rfl, rfl⟩ | refine And.intro ?_ ?_) fun n2 z2 hI2 => ?_
      obtain ⟨p, R2, b2⟩ := z2
      obtain ⟨hn2, h2i⟩ := hI2
      dsimp only at hn2 h2i ⊢
      refine AWPD.seq fun K15 hK15 => ?_
      refine AWPD.seq fun K16 hK16 => ?_
      -- region 11
      refine AWPD.keep [1, 2, 5, 6, 8, 9] rfl ?_
      refine AWPD.region tabOK rfl ?_
      repeat refine And.intro (by first | exact fun h => h | exact fun _ => rfl | (intro h; rw [h]; rfl) | omega | (intros; (try dsimp only [Ty.T, Ty.size]); (try simp only [castL_self, Int.toNat_natCast, Int.toNat_zero, Int.toNat_one, true_and, List.length_append, List.length_set, List.length_drop, List.length_take, List.length_replicate, List.length_cons, List.length_nil, Nat.zero_add, Nat.mul_one]); omega) | decide | (intros; simp_all; done) | (intros; simp_all; omega)) ?_
      refine hK16 _ _ ?_
      clear hK16
      first | refine AWPD.condP rfl (fun h2 => ?_) (fun h2 => ?_) | refine AWPD.condN rfl (fun h2 => ?_) (fun h2 => ?_) | refine AWPD.condAP rfl (fun h2 => ?_) (fun h2 => ?_) | refine AWPD.condOP rfl (fun h2 => ?_) (fun h2 => ?_) | refine AWPD.condONN rfl (fun h2 => ?_) (fun h2 => ?_) | refine AWPD.condOPN rfl (fun h2 => ?_) (fun h2 => ?_) | refine AWPD.condA rfl (fun h2 => ?_) (fun h2 => ?_) | refine AWPD.condO rfl (fun h2 => ?_) (fun h2 => ?_) | refine AWPD.cond rfl (fun h2 => ?_) (fun h2 => ?_)
      · try dsimp only [Ty.T] at h2
        try simp only [castL_self] at h2
        try simp only [Int.toNat_natCast] at h2
        try simp only [Int.toNat_zero] at h2
        have hpl : p < P.toNat := by omega
        refine AWPD.skip ?_
        refine hK15 _ _ ?_
        clear hK15
        refine AWPD.seq fun K17 hK17 => ?_
        refine AWPD.block ?_
        refine AWPD.seq fun K18 hK18 => ?_
        -- region 13
        refine AWPD.keep [1, 2, 5, 6, 8, 9] rfl ?_
        refine AWPD.region tabOK rfl ?_
        refine hK18 _ _ ?_
        clear hK18
        refine AWPD.block ?_
        -- LOOP 3 live [1, 2, 5, 6, 8, 9, 10] changed [8, 10]
        refine AWPD.loopK (σ := Nat × RF × Bool) [1, 2, 5, 9] (fun z3 base => (6, .sl .val hd) :: (8, .b z3.2.2) :: (10, .i (z3.1 : Int)) :: base) (fun z3 => [rowsO hd (osA N.length P.toNat z3.2.1)]) (fun n z3 => n + z3.1 = A.length ∧ InvA P A N f R1 z3.2 p z3.1 0 0) A.length (0, R2, b2) [0] rfl rfl (⟨by omega, h2i⟩) (by decide) ⟨rfl, trivial⟩ (by repeat' first | exact True.intro | exact rfl | exact ⟨rfl, rfl⟩ | refine And.intro ?_ ?_) fun n3 z3 hI3 => ?_
        obtain ⟨a, R3, b3⟩ := z3
        obtain ⟨hn3, h3i⟩ := hI3
        dsimp only at hn3 h3i ⊢
        refine AWPD.seq fun K19 hK19 => ?_
        refine AWPD.seq fun K20 hK20 => ?_
        -- region 14
        refine AWPD.keep [1, 2, 5, 6, 8, 9, 10] rfl ?_
        refine AWPD.region tabOK rfl ?_
        repeat refine And.intro (by first | exact fun h => h | exact fun _ => rfl | (intro h; rw [h]; rfl) | omega | (intros; (try dsimp only [Ty.T, Ty.size]); (try simp only [castL_self, Int.toNat_natCast, Int.toNat_zero, Int.toNat_one, true_and, List.length_append, List.length_set, List.length_drop, List.length_take, List.length_replicate, List.length_cons, List.length_nil, Nat.zero_add, Nat.mul_one]); omega) | decide | (intros; simp_all; done) | (intros; simp_all; omega)) ?_
        refine hK20 _ _ ?_
        clear hK20
        first | refine AWPD.condP rfl (fun h3 => ?_) (fun h3 => ?_) | refine AWPD.condN rfl (fun h3 => ?_) (fun h3 => ?_) | refine AWPD.condAP rfl (fun h3 => ?_) (fun h3 => ?_) | refine AWPD.condOP rfl (fun h3 => ?_) (fun h3 => ?_) | refine AWPD.condONN rfl (fun h3 => ?_) (fun h3 => ?_) | refine AWPD.condOPN rfl (fun h3 => ?_) (fun h3 => ?_) | refine AWPD.condA rfl (fun h3 => ?_) (fun h3 => ?_) | refine AWPD.condO rfl (fun h3 => ?_) (fun h3 => ?_) | refine AWPD.cond rfl (fun h3 => ?_) (fun h3 => ?_)
        · try dsimp only [Ty.T] at h3
          try simp only [castL_self] at h3
          try simp only [Int.toNat_natCast] at h3
          try simp only [Int.toNat_zero] at h3
          have hal : a < A.length := by omega
          have hac := g.acts a hal
          have hba := hbyA a hal
          have hmf := mask_le (gf.mask (A.getD a 0).toNat (by omega)) hP.2
          refine AWPD.skip ?_
          refine hK19 _ _ ?_
          clear hK19
          refine AWPD.seq fun K21 hK21 => ?_
          refine AWPD.block ?_
          refine AWPD.seq fun K22 hK22 => ?_
          -- region 16
          refine AWPD.keep [1, 2, 5, 6, 8, 9, 10] rfl ?_
          refine AWPD.region tabOK rfl ?_
          repeat refine And.intro (by first | exact fun h => h | exact fun _ => rfl | (intro h; rw [h]; rfl) | omega | (intros; (try dsimp only [Ty.T, Ty.size]); (try simp only [castL_self, Int.toNat_natCast, Int.toNat_zero, Int.toNat_one, true_and, List.length_append, List.length_set, List.length_drop, List.length_take, List.length_replicate, List.length_cons, List.length_nil, Nat.zero_add, Nat.mul_one]); omega) | decide | (intros; simp_all; done) | (intros; simp_all; omega)) ?_
          refine hK22 _ _ ?_
          clear hK22
          refine AWPD.seq fun K23 hK23 => ?_
          -- region 17
          refine AWPD.keep [1, 2, 5, 6, 8, 9, 10, 11] rfl ?_
          refine AWPD.region tabOK rfl ?_
          refine hK23 _ _ ?_
          clear hK23
          refine AWPD.block ?_
          -- LOOP 4 live [1, 2, 5, 6, 8, 9, 10, 11, 12] changed [8, 12]
          refine AWPD.loopK (σ := Nat × RF × Bool) [1, 2, 5, 9, 10, 11] (fun z4 base => (6, .sl .val hd) :: (8, .b z4.2.2) :: (12, .i (z4.1 : Int)) :: base) (fun z4 => [rowsO hd (osA N.length P.toNat z4.2.1)]) (fun n z4 => n + z4.1 = N.length ∧ InvA P A N f R1 z4.2 p a z4.1 0) N.length (0, R3, b3) [0] rfl rfl (⟨by omega, h3i⟩) (by decide) ⟨rfl, trivial⟩ (by repeat' first | exact True.intro | exact rfl | exact ⟨rfl, rfl⟩ | refine And.intro ?_ ?_) fun n4 z4 hI4 => ?_
          obtain ⟨s, R4, b4⟩ := z4
          obtain ⟨hn4, h4i⟩ := hI4
          dsimp only at hn4 h4i ⊢
          refine AWPD.seq fun K24 hK24 => ?_
          refine AWPD.seq fun K25 hK25 => ?_
          -- region 18
          refine AWPD.keep [1, 2, 5, 6, 8, 9, 10, 11, 12] rfl ?_
          refine AWPD.region tabOK rfl ?_
          refine hK25 _ _ ?_
          clear hK25
          first | refine AWPD.condP rfl (fun h4 => ?_) (fun h4 => ?_) | refine AWPD.condN rfl (fun h4 => ?_) (fun h4 => ?_) | refine AWPD.condAP rfl (fun h4 => ?_) (fun h4 => ?_) | refine AWPD.condOP rfl (fun h4 => ?_) (fun h4 => ?_) | refine AWPD.condONN rfl (fun h4 => ?_) (fun h4 => ?_) | refine AWPD.condOPN rfl (fun h4 => ?_) (fun h4 => ?_) | refine AWPD.condA rfl (fun h4 => ?_) (fun h4 => ?_) | refine AWPD.condO rfl (fun h4 => ?_) (fun h4 => ?_) | refine AWPD.cond rfl (fun h4 => ?_) (fun h4 => ?_)
          · try dsimp only [Ty.T] at h4
            try simp only [castL_self] at h4
            try simp only [Int.toNat_natCast] at h4
            try simp only [Int.toNat_zero] at h4
            have hsl : s < N.length := by omega
            have hxs := g.nx_lt hsl hal
            have hxn : ((N.getD s []).getD a 0).toNat < N.length := hxs.2.2
            have hrs := g.rowN s hsl
            refine AWPD.skip ?_
            refine hK24 _ _ ?_
            clear hK24
            refine AWPD.seq fun K26 hK26 => ?_
            refine AWPD.block ?_
            refine AWPD.seq fun K27 hK27 => ?_
            refine AWPD.seq fun K28 hK28 => ?_
            -- region 20
            refine AWPD.keep [1, 2, 5, 6, 8, 9, 10, 11, 12] rfl ?_
            refine AWPD.draw tabOK [21] rfl (by kernel_rfl) ?_
            repeat refine And.intro (by first | exact fun h => h | exact fun _ => rfl | (intro h; rw [h]; rfl) | omega | (intros; (try dsimp only [Ty.T, Ty.size]); (try simp only [castL_self, Int.toNat_natCast, Int.toNat_zero, Int.toNat_one, true_and, List.length_append, List.length_set, List.length_drop, List.length_take, List.length_replicate, List.length_cons, List.length_nil, Nat.zero_add, Nat.mul_one]); omega) | decide | (intros; simp_all; done) | (intros; simp_all; omega)) ?_
            refine Exists.intro _ (Exists.intro _ (And.intro (StepD.call (bit_fn (f.getD (A.getD a 0).toNat 0) (p : Int) (by omega) (by omega)) rfl rfl rfl) (And.intro rfl (And.intro rfl ?_))))
            repeat refine And.intro (by first | exact fun h => h | exact fun _ => rfl | (intro h; rw [h]; rfl) | omega | (intros; (try dsimp only [Ty.T, Ty.size]); (try simp only [castL_self, Int.toNat_natCast, Int.toNat_zero, Int.toNat_one, true_and, List.length_append, List.length_set, List.length_drop, List.length_take, List.length_replicate, List.length_cons, List.length_nil, Nat.zero_add, Nat.mul_one]); omega) | decide | (intros; simp_all; done) | (intros; simp_all; omega)) ?_
            refine Exists.intro _ (Exists.intro _ (And.intro (fun hg => StepD.callM 0 p (join3_if (s := (s : Int)) (t := (N.getD s []).getD a 0) (by omega) (by omega) (by omega) hg) (osA_get (by omega)) (flat_int _) (flat_int _) rfl rfl rfl rfl rfl rfl rfl rfl rfl (row_free _ _ _) (row_free _ _ _)) (And.intro (fun hf => congrArg (fun o => [rowsO hd o]) (osA_keep hf _)) (And.intro rfl (And.intro trivial ?_)))))
            repeat refine And.intro (by first | exact fun h => h | exact fun _ => rfl | (intro h; rw [h]; rfl) | omega | (intros; (try dsimp only [Ty.T, Ty.size]); (try simp only [castL_self, Int.toNat_natCast, Int.toNat_zero, Int.toNat_one, true_and, List.length_append, List.length_set, List.length_drop, List.length_take, List.length_replicate, List.length_cons, List.length_nil, Nat.zero_add, Nat.mul_one]); omega) | decide | (intros; simp_all; done) | (intros; simp_all; omega)) ?_
            refine hK28 _ _ ?_
            clear hK28
            first | refine AWPD.cond rfl (fun h5 => ?_) (fun h5 => ?_)
            · try dsimp only [Ty.T] at h5
              try simp only [castL_self] at h5
              try simp only [Int.toNat_natCast] at h5
              try simp only [Int.toNat_zero] at h5
              -- region 21
              refine AWPD.keep [1, 2, 5, 6, 9, 10, 11, 12] rfl ?_
              refine AWPD.region tabOK rfl ?_
              refine hK27 _ _ ?_
              clear hK27
              refine AWPD.seq fun K29 hK29 => ?_
              -- region 22
              refine AWPD.keep [1, 2, 5, 6, 8, 9, 10, 11, 12] rfl ?_
              refine AWPD.region tabOK rfl ?_
              refine hK29 _ _ ?_
              clear hK29
              refine AWPD.block ?_
              -- LOOP 5 live [1, 2, 5, 6, 8, 9, 10, 11, 12, 13] changed [8, 13]
              refine AWPD.loopK (σ := Nat × RF × Bool) [1, 2, 5, 9, 10, 11, 12] (fun z5 base => (6, .sl .val hd) :: (8, .b z5.2.2) :: (13, .i (z5.1 : Int)) :: base) (fun z5 => [rowsO hd (osA N.length P.toNat z5.2.1)]) (fun n z5 => n + z5.1 = s ∧ InvA P A N f R1 z5.2 p a s (z5.1 + 1)) s (0, q1A N A f p a s (R4, b4)) [0] rfl rfl (⟨by omega, h4i.q1 hpl hsl hal hxs.2.2⟩) (by decide) ⟨congrArg (rowsC hd) (obj1 (z := (R4, b4))), trivial⟩ (by repeat' first | exact up1 (z := (R4, b4)) h5 | exact still1 (z := (R4, b4)) h5 | exact True.intro | exact rfl | exact ⟨rfl, rfl⟩ | refine And.intro ?_ ?_) fun n5 z5 hI5 => ?_
              obtain ⟨t, R5, b5⟩ := z5
              obtain ⟨hn5, h5i⟩ := hI5
              dsimp only at hn5 h5i ⊢
              refine AWPD.seq fun K30 hK30 => ?_
              refine AWPD.seq fun K31 hK31 => ?_
              -- region 23
              refine AWPD.keep [1, 2, 5, 6, 8, 9, 10, 11, 12, 13] rfl ?_
              refine AWPD.region tabOK rfl ?_
              refine hK31 _ _ ?_
              clear hK31
              first | refine AWPD.condP rfl (fun h6 => ?_) (fun h6 => ?_) | refine AWPD.condN rfl (fun h6 => ?_) (fun h6 => ?_) | refine AWPD.condAP rfl (fun h6 => ?_) (fun h6 => ?_) | refine AWPD.condOP rfl (fun h6 => ?_) (fun h6 => ?_) | refine AWPD.condONN rfl (fun h6 => ?_) (fun h6 => ?_) | refine AWPD.condOPN rfl (fun h6 => ?_) (fun h6 => ?_) | refine AWPD.condA rfl (fun h6 => ?_) (fun h6 => ?_) | refine AWPD.condO rfl (fun h6 => ?_) (fun h6 => ?_) | refine AWPD.cond rfl (fun h6 => ?_) (fun h6 => ?_)
              · try dsimp only [Ty.T] at h6
                try simp only [castL_self] at h6
                try simp only [Int.toNat_natCast] at h6
                try simp only [Int.toNat_zero] at h6
                have htl : t < N.length := by omega
                have hxt := g.nx_lt htl hal
                have htn : ((N.getD t []).getD a 0).toNat < N.length := hxt.2.2
                have hrt := g.rowN t htl
                have hX := lab_cond (p := p) (R := R5) (b := byA A a) hsl htl
                refine AWPD.skip ?_
                refine hK30 _ _ ?_
                clear hK30
                refine AWPD.seq fun K32 hK32 => ?_
                refine AWPD.block ?_
                refine AWPD.seq fun K33 hK33 => ?_
                -- region 25
                refine AWPD.keep [1, 2, 5, 6, 8, 9, 10, 11, 12, 13] rfl ?_
                refine AWPD.draw tabOK [53] rfl (by kernel_rfl) ?_
                repeat refine And.intro (by first | exact fun h => h | exact fun _ => rfl | (intro h; rw [h]; rfl) | omega | (intros; (try dsimp only [Ty.T, Ty.size]); (try simp only [castL_self, Int.toNat_natCast, Int.toNat_zero, Int.toNat_one, true_and, List.length_append, List.length_set, List.length_drop, List.length_take, List.length_replicate, List.length_cons, List.length_nil, Nat.zero_add, Nat.mul_one]); omega) | decide | (intros; simp_all; done) | (intros; simp_all; omega)) ?_
                refine Exists.intro _ (Exists.intro _ (And.intro (StepD.addrM 0 (p) (osA_get (by omega)) (flat_int _) tabOK rfl rfl (by simp only [labL_len]; omega) rfl rfl rfl rfl rfl rfl) (And.intro rfl (And.intro rfl ?_))))
                refine Exists.intro _ (Exists.intro _ (And.intro (StepD.loadM (k := s) (c := 0) 0 (p) (osA_get (by omega)) (flat_int _) tabOK rfl rfl rfl (by simp only [labL_len]; omega) rfl rfl rfl rfl) (And.intro rfl (And.intro rfl ?_))))
                repeat refine And.intro (by first | exact fun h => h | exact fun _ => rfl | (intro h; rw [h]; rfl) | omega | (intros; (try dsimp only [Ty.T, Ty.size]); (try simp only [castL_self, Int.toNat_natCast, Int.toNat_zero, Int.toNat_one, true_and, List.length_append, List.length_set, List.length_drop, List.length_take, List.length_replicate, List.length_cons, List.length_nil, Nat.zero_add, Nat.mul_one]); omega) | decide | (intros; simp_all; done) | (intros; simp_all; omega)) ?_
                refine Exists.intro _ (Exists.intro _ (And.intro (StepD.addrM 0 (p) (osA_get (by omega)) (flat_int _) tabOK rfl rfl (by simp only [labL_len]; omega) rfl rfl rfl rfl rfl rfl) (And.intro rfl (And.intro rfl ?_))))
                refine Exists.intro _ (Exists.intro _ (And.intro (StepD.loadM (k := t) (c := 0) 0 (p) (osA_get (by omega)) (flat_int _) tabOK rfl rfl rfl (by simp only [labL_len]; omega) rfl rfl rfl rfl) (And.intro rfl (And.intro rfl ?_))))
                repeat refine And.intro (by first | exact fun h => h | exact fun _ => rfl | (intro h; rw [h]; rfl) | omega | (intros; (try dsimp only [Ty.T, Ty.size]); (try simp only [castL_self, Int.toNat_natCast, Int.toNat_zero, Int.toNat_one, true_and, List.length_append, List.length_set, List.length_drop, List.length_take, List.length_replicate, List.length_cons, List.length_nil, Nat.zero_add, Nat.mul_one]); omega) | decide | (intros; simp_all; done) | (intros; simp_all; omega)) ?_
                refine Exists.intro _ (Exists.intro _ (And.intro (fun hg => StepD.addrM 0 (byA A a) (osA_get (by omega)) (flat_int _) tabOK rfl rfl (by simp only [labL_len]; omega) rfl rfl rfl rfl rfl rfl) (And.intro (fun hf => rfl) (And.intro rfl (And.intro rfl ?_)))))
                repeat refine And.intro (by first | exact fun h => h | exact fun _ => rfl | (intro h; rw [h]; rfl) | omega | (intros; (try dsimp only [Ty.T, Ty.size]); (try simp only [castL_self, Int.toNat_natCast, Int.toNat_zero, Int.toNat_one, true_and, List.length_append, List.length_set, List.length_drop, List.length_take, List.length_replicate, List.length_cons, List.length_nil, Nat.zero_add, Nat.mul_one]); omega) | decide | (intros; simp_all; done) | (intros; simp_all; omega)) ?_
                refine Exists.intro _ (Exists.intro _ (And.intro (fun hg => StepD.loadM (k := s) (c := 0) 0 (byA A a) (osA_get (by omega)) (flat_int _) tabOK rfl rfl rfl (by simp only [labL_len]; omega) rfl rfl rfl rfl) (And.intro (fun hf => rfl) (And.intro rfl (And.intro rfl ?_)))))
                repeat refine And.intro (by first | exact fun h => h | exact fun _ => rfl | (intro h; rw [h]; rfl) | omega | (intros; (try dsimp only [Ty.T, Ty.size]); (try simp only [castL_self, Int.toNat_natCast, Int.toNat_zero, Int.toNat_one, true_and, List.length_append, List.length_set, List.length_drop, List.length_take, List.length_replicate, List.length_cons, List.length_nil, Nat.zero_add, Nat.mul_one]); omega) | decide | (intros; simp_all; done) | (intros; simp_all; omega)) ?_
                refine Exists.intro _ (Exists.intro _ (And.intro (fun hg => StepD.addrM 0 (byA A a) (osA_get (by omega)) (flat_int _) tabOK rfl rfl (by simp only [labL_len]; omega) rfl rfl rfl rfl rfl rfl) (And.intro (fun hf => rfl) (And.intro rfl (And.intro rfl ?_)))))
                repeat refine And.intro (by first | exact fun h => h | exact fun _ => rfl | (intro h; rw [h]; rfl) | omega | (intros; (try dsimp only [Ty.T, Ty.size]); (try simp only [castL_self, Int.toNat_natCast, Int.toNat_zero, Int.toNat_one, true_and, List.length_append, List.length_set, List.length_drop, List.length_take, List.length_replicate, List.length_cons, List.length_nil, Nat.zero_add, Nat.mul_one]); omega) | decide | (intros; simp_all; done) | (intros; simp_all; omega)) ?_
                refine Exists.intro _ (Exists.intro _ (And.intro (fun hg => StepD.loadM (k := t) (c := 0) 0 (byA A a) (osA_get (by omega)) (flat_int _) tabOK rfl rfl rfl (by simp only [labL_len]; omega) rfl rfl rfl rfl) (And.intro (fun hf => rfl) (And.intro rfl (And.intro rfl ?_)))))
                repeat refine And.intro (by first | exact fun h => h | exact fun _ => rfl | (intro h; rw [h]; rfl) | omega | (intros; (try dsimp only [Ty.T, Ty.size]); (try simp only [castL_self, Int.toNat_natCast, Int.toNat_zero, Int.toNat_one, true_and, List.length_append, List.length_set, List.length_drop, List.length_take, List.length_replicate, List.length_cons, List.length_nil, Nat.zero_add, Nat.mul_one]); omega) | decide | (intros; simp_all; done) | (intros; simp_all; omega)) ?_
                refine Exists.intro _ (Exists.intro _ (And.intro (fun hg => StepD.callM 0 p (join3_if (s := (N.getD s []).getD a 0) (t := (N.getD t []).getD a 0) (by omega) (by omega) (by omega) hg) (osA_get (by omega)) (flat_int _) (flat_int _) rfl rfl rfl rfl rfl rfl rfl rfl rfl (row_free _ _ _) (row_free _ _ _)) (And.intro (fun hf => congrArg (fun o => [rowsO hd o]) (osA_keep hf _)) (And.intro rfl (And.intro trivial ?_)))))
                repeat refine And.intro (by first | exact fun h => h | exact fun _ => rfl | (intro h; rw [h]; rfl) | omega | (intros; (try dsimp only [Ty.T, Ty.size]); (try simp only [castL_self, Int.toNat_natCast, Int.toNat_zero, Int.toNat_one, true_and, List.length_append, List.length_set, List.length_drop, List.length_take, List.length_replicate, List.length_cons, List.length_nil, Nat.zero_add, Nat.mul_one]); omega) | decide | (intros; simp_all; done) | (intros; simp_all; omega)) ?_
                refine hK33 _ _ ?_
                clear hK33
                first | refine AWPD.cond rfl (fun h7 => ?_) (fun h7 => ?_)
                · try dsimp only [Ty.T] at h7
                  try simp only [castL_self] at h7
                  try simp only [Int.toNat_natCast] at h7
                  try simp only [Int.toNat_zero] at h7
                  -- region 26
                  refine AWPD.keep [1, 2, 5, 6, 9, 10, 11, 12, 13] rfl ?_
                  refine AWPD.region tabOK rfl ?_
                  refine hK32 _ _ ?_
                  clear hK32
                  -- region 24
                  refine AWPD.keep [1, 2, 5, 6, 8, 9, 10, 11, 12, 13] rfl ?_
                  refine AWPD.region tabOK rfl ?_
                  repeat refine And.intro (by first | exact fun h => h | exact fun _ => rfl | (intro h; rw [h]; rfl) | omega | (intros; (try dsimp only [Ty.T, Ty.size]); (try simp only [castL_self, Int.toNat_natCast, Int.toNat_zero, Int.toNat_one, true_and, List.length_append, List.length_set, List.length_drop, List.length_take, List.length_replicate, List.length_cons, List.length_nil, Nat.zero_add, Nat.mul_one]); omega) | decide | (intros; simp_all; done) | (intros; simp_all; omega)) ?_
                  refine ⟨n5 - 1, (t + 1, q2A N A p a s t (R5, b5)), [0], by omega, ⟨by omega, h5i.q2 hpl hsl htl hal hxs.2.2 hxt.2.2 hba⟩, ⟨by decide, rfl⟩, ⟨congrArg (rowsC hd) (obj2 (z := (R5, b5)) hX), trivial⟩, ?_⟩
                  repeat' first | exact up2 (z := (R5, b5)) hX h7 | exact still2 (z := (R5, b5)) hX h7 | exact True.intro | exact rfl | exact ⟨rfl, rfl⟩ | refine And.intro ?_ ?_
                · try dsimp only [Ty.T] at h7
                  try simp only [castL_self] at h7
                  try simp only [Int.toNat_natCast] at h7
                  try simp only [Int.toNat_zero] at h7
                  refine AWPD.skip ?_
                  refine hK32 _ _ ?_
                  clear hK32
                  -- region 24
                  refine AWPD.keep [1, 2, 5, 6, 8, 9, 10, 11, 12, 13] rfl ?_
                  refine AWPD.region tabOK rfl ?_
                  repeat refine And.intro (by first | exact fun h => h | exact fun _ => rfl | (intro h; rw [h]; rfl) | omega | (intros; (try dsimp only [Ty.T, Ty.size]); (try simp only [castL_self, Int.toNat_natCast, Int.toNat_zero, Int.toNat_one, true_and, List.length_append, List.length_set, List.length_drop, List.length_take, List.length_replicate, List.length_cons, List.length_nil, Nat.zero_add, Nat.mul_one]); omega) | decide | (intros; simp_all; done) | (intros; simp_all; omega)) ?_
                  refine ⟨n5 - 1, (t + 1, q2A N A p a s t (R5, b5)), [0], by omega, ⟨by omega, h5i.q2 hpl hsl htl hal hxs.2.2 hxt.2.2 hba⟩, ⟨by decide, rfl⟩, ⟨congrArg (rowsC hd) (obj2 (z := (R5, b5)) hX), trivial⟩, ?_⟩
                  repeat' first | exact up2 (z := (R5, b5)) hX h7 | exact still2 (z := (R5, b5)) hX h7 | exact True.intro | exact rfl | exact ⟨rfl, rfl⟩ | refine And.intro ?_ ?_
              · try dsimp only [Ty.T] at h6
                try simp only [castL_self] at h6
                try simp only [Int.toNat_natCast] at h6
                try simp only [Int.toNat_zero] at h6
                have hte : s = t := by omega
                subst hte
                refine AWPD.exit ?_
                refine hK26 _ _ ?_
                clear hK26
                -- region 19
                refine AWPD.keep [1, 2, 5, 6, 8, 9, 10, 11, 12] rfl ?_
                refine AWPD.region tabOK rfl ?_
                repeat refine And.intro (by first | exact fun h => h | exact fun _ => rfl | (intro h; rw [h]; rfl) | omega | (intros; (try dsimp only [Ty.T, Ty.size]); (try simp only [castL_self, Int.toNat_natCast, Int.toNat_zero, Int.toNat_one, true_and, List.length_append, List.length_set, List.length_drop, List.length_take, List.length_replicate, List.length_cons, List.length_nil, Nat.zero_add, Nat.mul_one]); omega) | decide | (intros; simp_all; done) | (intros; simp_all; omega)) ?_
                refine ⟨n4 - 1, (s + 1, R5, b5), [0], by omega, ⟨by omega, h5i.nextS⟩, ⟨by decide, rfl⟩, ⟨rfl, trivial⟩, ?_⟩
                repeat' first | exact True.intro | exact rfl | exact ⟨rfl, rfl⟩ | refine And.intro ?_ ?_
            · try dsimp only [Ty.T] at h5
              try simp only [castL_self] at h5
              try simp only [Int.toNat_natCast] at h5
              try simp only [Int.toNat_zero] at h5
              refine AWPD.skip ?_
              refine hK27 _ _ ?_
              clear hK27
              refine AWPD.seq fun K34 hK34 => ?_
              -- region 22
              refine AWPD.keep [1, 2, 5, 6, 8, 9, 10, 11, 12] rfl ?_
              refine AWPD.region tabOK rfl ?_
              refine hK34 _ _ ?_
              clear hK34
              refine AWPD.block ?_
              -- LOOP 5 live [1, 2, 5, 6, 8, 9, 10, 11, 12, 13] changed [8, 13]
              refine AWPD.loopK (σ := Nat × RF × Bool) [1, 2, 5, 9, 10, 11, 12] (fun z5 base => (6, .sl .val hd) :: (8, .b z5.2.2) :: (13, .i (z5.1 : Int)) :: base) (fun z5 => [rowsO hd (osA N.length P.toNat z5.2.1)]) (fun n z5 => n + z5.1 = s ∧ InvA P A N f R1 z5.2 p a s (z5.1 + 1)) s (0, q1A N A f p a s (R4, b4)) [0] rfl rfl (⟨by omega, h4i.q1 hpl hsl hal hxs.2.2⟩) (by decide) ⟨congrArg (rowsC hd) (obj1 (z := (R4, b4))), trivial⟩ (by repeat' first | exact up1 (z := (R4, b4)) h5 | exact still1 (z := (R4, b4)) h5 | exact True.intro | exact rfl | exact ⟨rfl, rfl⟩ | refine And.intro ?_ ?_) fun n5 z5 hI5 => ?_
              obtain ⟨t, R5, b5⟩ := z5
              obtain ⟨hn5, h5i⟩ := hI5
              dsimp only at hn5 h5i ⊢
              refine AWPD.seq fun K35 hK35 => ?_
              refine AWPD.seq fun K36 hK36 => ?_
              -- region 23
              refine AWPD.keep [1, 2, 5, 6, 8, 9, 10, 11, 12, 13] rfl ?_
              refine AWPD.region tabOK rfl ?_
              refine hK36 _ _ ?_
              clear hK36
              first | refine AWPD.condP rfl (fun h6 => ?_) (fun h6 => ?_) | refine AWPD.condN rfl (fun h6 => ?_) (fun h6 => ?_) | refine AWPD.condAP rfl (fun h6 => ?_) (fun h6 => ?_) | refine AWPD.condOP rfl (fun h6 => ?_) (fun h6 => ?_) | refine AWPD.condONN rfl (fun h6 => ?_) (fun h6 => ?_) | refine AWPD.condOPN rfl (fun h6 => ?_) (fun h6 => ?_) | refine AWPD.condA rfl (fun h6 => ?_) (fun h6 => ?_) | refine AWPD.condO rfl (fun h6 => ?_) (fun h6 => ?_) | refine AWPD.cond rfl (fun h6 => ?_) (fun h6 => ?_)
              · try dsimp only [Ty.T] at h6
                try simp only [castL_self] at h6
                try simp only [Int.toNat_natCast] at h6
                try simp only [Int.toNat_zero] at h6
                have htl : t < N.length := by omega
                have hxt := g.nx_lt htl hal
                have htn : ((N.getD t []).getD a 0).toNat < N.length := hxt.2.2
                have hrt := g.rowN t htl
                have hX := lab_cond (p := p) (R := R5) (b := byA A a) hsl htl
                refine AWPD.skip ?_
                refine hK35 _ _ ?_
                clear hK35
                refine AWPD.seq fun K37 hK37 => ?_
                refine AWPD.block ?_
                refine AWPD.seq fun K38 hK38 => ?_
                -- region 25
                refine AWPD.keep [1, 2, 5, 6, 8, 9, 10, 11, 12, 13] rfl ?_
                refine AWPD.draw tabOK [53] rfl (by kernel_rfl) ?_
                repeat refine And.intro (by first | exact fun h => h | exact fun _ => rfl | (intro h; rw [h]; rfl) | omega | (intros; (try dsimp only [Ty.T, Ty.size]); (try simp only [castL_self, Int.toNat_natCast, Int.toNat_zero, Int.toNat_one, true_and, List.length_append, List.length_set, List.length_drop, List.length_take, List.length_replicate, List.length_cons, List.length_nil, Nat.zero_add, Nat.mul_one]); omega) | decide | (intros; simp_all; done) | (intros; simp_all; omega)) ?_
                refine Exists.intro _ (Exists.intro _ (And.intro (StepD.addrM 0 (p) (osA_get (by omega)) (flat_int _) tabOK rfl rfl (by simp only [labL_len]; omega) rfl rfl rfl rfl rfl rfl) (And.intro rfl (And.intro rfl ?_))))
                refine Exists.intro _ (Exists.intro _ (And.intro (StepD.loadM (k := s) (c := 0) 0 (p) (osA_get (by omega)) (flat_int _) tabOK rfl rfl rfl (by simp only [labL_len]; omega) rfl rfl rfl rfl) (And.intro rfl (And.intro rfl ?_))))
                repeat refine And.intro (by first | exact fun h => h | exact fun _ => rfl | (intro h; rw [h]; rfl) | omega | (intros; (try dsimp only [Ty.T, Ty.size]); (try simp only [castL_self, Int.toNat_natCast, Int.toNat_zero, Int.toNat_one, true_and, List.length_append, List.length_set, List.length_drop, List.length_take, List.length_replicate, List.length_cons, List.length_nil, Nat.zero_add, Nat.mul_one]); omega) | decide | (intros; simp_all; done) | (intros; simp_all; omega)) ?_
                refine Exists.intro _ (Exists.intro _ (And.intro (StepD.addrM 0 (p) (osA_get (by omega)) (flat_int _) tabOK rfl rfl (by simp only [labL_len]; omega) rfl rfl rfl rfl rfl rfl) (And.intro rfl (And.intro rfl ?_))))
                refine Exists.intro _ (Exists.intro _ (And.intro (StepD.loadM (k := t) (c := 0) 0 (p) (osA_get (by omega)) (flat_int _) tabOK rfl rfl rfl (by simp only [labL_len]; omega) rfl rfl rfl rfl) (And.intro rfl (And.intro rfl ?_))))
                repeat refine And.intro (by first | exact fun h => h | exact fun _ => rfl | (intro h; rw [h]; rfl) | omega | (intros; (try dsimp only [Ty.T, Ty.size]); (try simp only [castL_self, Int.toNat_natCast, Int.toNat_zero, Int.toNat_one, true_and, List.length_append, List.length_set, List.length_drop, List.length_take, List.length_replicate, List.length_cons, List.length_nil, Nat.zero_add, Nat.mul_one]); omega) | decide | (intros; simp_all; done) | (intros; simp_all; omega)) ?_
                refine Exists.intro _ (Exists.intro _ (And.intro (fun hg => StepD.addrM 0 (byA A a) (osA_get (by omega)) (flat_int _) tabOK rfl rfl (by simp only [labL_len]; omega) rfl rfl rfl rfl rfl rfl) (And.intro (fun hf => rfl) (And.intro rfl (And.intro rfl ?_)))))
                repeat refine And.intro (by first | exact fun h => h | exact fun _ => rfl | (intro h; rw [h]; rfl) | omega | (intros; (try dsimp only [Ty.T, Ty.size]); (try simp only [castL_self, Int.toNat_natCast, Int.toNat_zero, Int.toNat_one, true_and, List.length_append, List.length_set, List.length_drop, List.length_take, List.length_replicate, List.length_cons, List.length_nil, Nat.zero_add, Nat.mul_one]); omega) | decide | (intros; simp_all; done) | (intros; simp_all; omega)) ?_
                refine Exists.intro _ (Exists.intro _ (And.intro (fun hg => StepD.loadM (k := s) (c := 0) 0 (byA A a) (osA_get (by omega)) (flat_int _) tabOK rfl rfl rfl (by simp only [labL_len]; omega) rfl rfl rfl rfl) (And.intro (fun hf => rfl) (And.intro rfl (And.intro rfl ?_)))))
                repeat refine And.intro (by first | exact fun h => h | exact fun _ => rfl | (intro h; rw [h]; rfl) | omega | (intros; (try dsimp only [Ty.T, Ty.size]); (try simp only [castL_self, Int.toNat_natCast, Int.toNat_zero, Int.toNat_one, true_and, List.length_append, List.length_set, List.length_drop, List.length_take, List.length_replicate, List.length_cons, List.length_nil, Nat.zero_add, Nat.mul_one]); omega) | decide | (intros; simp_all; done) | (intros; simp_all; omega)) ?_
                refine Exists.intro _ (Exists.intro _ (And.intro (fun hg => StepD.addrM 0 (byA A a) (osA_get (by omega)) (flat_int _) tabOK rfl rfl (by simp only [labL_len]; omega) rfl rfl rfl rfl rfl rfl) (And.intro (fun hf => rfl) (And.intro rfl (And.intro rfl ?_)))))
                repeat refine And.intro (by first | exact fun h => h | exact fun _ => rfl | (intro h; rw [h]; rfl) | omega | (intros; (try dsimp only [Ty.T, Ty.size]); (try simp only [castL_self, Int.toNat_natCast, Int.toNat_zero, Int.toNat_one, true_and, List.length_append, List.length_set, List.length_drop, List.length_take, List.length_replicate, List.length_cons, List.length_nil, Nat.zero_add, Nat.mul_one]); omega) | decide | (intros; simp_all; done) | (intros; simp_all; omega)) ?_
                refine Exists.intro _ (Exists.intro _ (And.intro (fun hg => StepD.loadM (k := t) (c := 0) 0 (byA A a) (osA_get (by omega)) (flat_int _) tabOK rfl rfl rfl (by simp only [labL_len]; omega) rfl rfl rfl rfl) (And.intro (fun hf => rfl) (And.intro rfl (And.intro rfl ?_)))))
                repeat refine And.intro (by first | exact fun h => h | exact fun _ => rfl | (intro h; rw [h]; rfl) | omega | (intros; (try dsimp only [Ty.T, Ty.size]); (try simp only [castL_self, Int.toNat_natCast, Int.toNat_zero, Int.toNat_one, true_and, List.length_append, List.length_set, List.length_drop, List.length_take, List.length_replicate, List.length_cons, List.length_nil, Nat.zero_add, Nat.mul_one]); omega) | decide | (intros; simp_all; done) | (intros; simp_all; omega)) ?_
                refine Exists.intro _ (Exists.intro _ (And.intro (fun hg => StepD.callM 0 p (join3_if (s := (N.getD s []).getD a 0) (t := (N.getD t []).getD a 0) (by omega) (by omega) (by omega) hg) (osA_get (by omega)) (flat_int _) (flat_int _) rfl rfl rfl rfl rfl rfl rfl rfl rfl (row_free _ _ _) (row_free _ _ _)) (And.intro (fun hf => congrArg (fun o => [rowsO hd o]) (osA_keep hf _)) (And.intro rfl (And.intro trivial ?_)))))
                repeat refine And.intro (by first | exact fun h => h | exact fun _ => rfl | (intro h; rw [h]; rfl) | omega | (intros; (try dsimp only [Ty.T, Ty.size]); (try simp only [castL_self, Int.toNat_natCast, Int.toNat_zero, Int.toNat_one, true_and, List.length_append, List.length_set, List.length_drop, List.length_take, List.length_replicate, List.length_cons, List.length_nil, Nat.zero_add, Nat.mul_one]); omega) | decide | (intros; simp_all; done) | (intros; simp_all; omega)) ?_
                refine hK38 _ _ ?_
                clear hK38
                first | refine AWPD.cond rfl (fun h7 => ?_) (fun h7 => ?_)
                · try dsimp only [Ty.T] at h7
                  try simp only [castL_self] at h7
                  try simp only [Int.toNat_natCast] at h7
                  try simp only [Int.toNat_zero] at h7
                  -- region 26
                  refine AWPD.keep [1, 2, 5, 6, 9, 10, 11, 12, 13] rfl ?_
                  refine AWPD.region tabOK rfl ?_
                  refine hK37 _ _ ?_
                  clear hK37
                  -- region 24
                  refine AWPD.keep [1, 2, 5, 6, 8, 9, 10, 11, 12, 13] rfl ?_
                  refine AWPD.region tabOK rfl ?_
                  repeat refine And.intro (by first | exact fun h => h | exact fun _ => rfl | (intro h; rw [h]; rfl) | omega | (intros; (try dsimp only [Ty.T, Ty.size]); (try simp only [castL_self, Int.toNat_natCast, Int.toNat_zero, Int.toNat_one, true_and, List.length_append, List.length_set, List.length_drop, List.length_take, List.length_replicate, List.length_cons, List.length_nil, Nat.zero_add, Nat.mul_one]); omega) | decide | (intros; simp_all; done) | (intros; simp_all; omega)) ?_
                  refine ⟨n5 - 1, (t + 1, q2A N A p a s t (R5, b5)), [0], by omega, ⟨by omega, h5i.q2 hpl hsl htl hal hxs.2.2 hxt.2.2 hba⟩, ⟨by decide, rfl⟩, ⟨congrArg (rowsC hd) (obj2 (z := (R5, b5)) hX), trivial⟩, ?_⟩
                  repeat' first | exact up2 (z := (R5, b5)) hX h7 | exact still2 (z := (R5, b5)) hX h7 | exact True.intro | exact rfl | exact ⟨rfl, rfl⟩ | refine And.intro ?_ ?_
                · try dsimp only [Ty.T] at h7
                  try simp only [castL_self] at h7
                  try simp only [Int.toNat_natCast] at h7
                  try simp only [Int.toNat_zero] at h7
                  refine AWPD.skip ?_
                  refine hK37 _ _ ?_
                  clear hK37
                  -- region 24
                  refine AWPD.keep [1, 2, 5, 6, 8, 9, 10, 11, 12, 13] rfl ?_
                  refine AWPD.region tabOK rfl ?_
                  repeat refine And.intro (by first | exact fun h => h | exact fun _ => rfl | (intro h; rw [h]; rfl) | omega | (intros; (try dsimp only [Ty.T, Ty.size]); (try simp only [castL_self, Int.toNat_natCast, Int.toNat_zero, Int.toNat_one, true_and, List.length_append, List.length_set, List.length_drop, List.length_take, List.length_replicate, List.length_cons, List.length_nil, Nat.zero_add, Nat.mul_one]); omega) | decide | (intros; simp_all; done) | (intros; simp_all; omega)) ?_
                  refine ⟨n5 - 1, (t + 1, q2A N A p a s t (R5, b5)), [0], by omega, ⟨by omega, h5i.q2 hpl hsl htl hal hxs.2.2 hxt.2.2 hba⟩, ⟨by decide, rfl⟩, ⟨congrArg (rowsC hd) (obj2 (z := (R5, b5)) hX), trivial⟩, ?_⟩
                  repeat' first | exact up2 (z := (R5, b5)) hX h7 | exact still2 (z := (R5, b5)) hX h7 | exact True.intro | exact rfl | exact ⟨rfl, rfl⟩ | refine And.intro ?_ ?_
              · try dsimp only [Ty.T] at h6
                try simp only [castL_self] at h6
                try simp only [Int.toNat_natCast] at h6
                try simp only [Int.toNat_zero] at h6
                have hte : s = t := by omega
                subst hte
                refine AWPD.exit ?_
                refine hK26 _ _ ?_
                clear hK26
                -- region 19
                refine AWPD.keep [1, 2, 5, 6, 8, 9, 10, 11, 12] rfl ?_
                refine AWPD.region tabOK rfl ?_
                repeat refine And.intro (by first | exact fun h => h | exact fun _ => rfl | (intro h; rw [h]; rfl) | omega | (intros; (try dsimp only [Ty.T, Ty.size]); (try simp only [castL_self, Int.toNat_natCast, Int.toNat_zero, Int.toNat_one, true_and, List.length_append, List.length_set, List.length_drop, List.length_take, List.length_replicate, List.length_cons, List.length_nil, Nat.zero_add, Nat.mul_one]); omega) | decide | (intros; simp_all; done) | (intros; simp_all; omega)) ?_
                refine ⟨n4 - 1, (s + 1, R5, b5), [0], by omega, ⟨by omega, h5i.nextS⟩, ⟨by decide, rfl⟩, ⟨rfl, trivial⟩, ?_⟩
                repeat' first | exact True.intro | exact rfl | exact ⟨rfl, rfl⟩ | refine And.intro ?_ ?_
          · try dsimp only [Ty.T] at h4
            try simp only [castL_self] at h4
            try simp only [Int.toNat_natCast] at h4
            try simp only [Int.toNat_zero] at h4
            have hse : s = N.length := by omega
            subst hse
            refine AWPD.exit ?_
            refine hK21 _ _ ?_
            clear hK21
            -- region 15
            refine AWPD.keep [1, 2, 5, 6, 8, 9, 10] rfl ?_
            refine AWPD.region tabOK rfl ?_
            repeat refine And.intro (by first | exact fun h => h | exact fun _ => rfl | (intro h; rw [h]; rfl) | omega | (intros; (try dsimp only [Ty.T, Ty.size]); (try simp only [castL_self, Int.toNat_natCast, Int.toNat_zero, Int.toNat_one, true_and, List.length_append, List.length_set, List.length_drop, List.length_take, List.length_replicate, List.length_cons, List.length_nil, Nat.zero_add, Nat.mul_one]); omega) | decide | (intros; simp_all; done) | (intros; simp_all; omega)) ?_
            refine ⟨n3 - 1, (a + 1, R4, b4), [0], by omega, ⟨by omega, h4i.nextA⟩, ⟨by decide, rfl⟩, ⟨rfl, trivial⟩, ?_⟩
            repeat' first | exact True.intro | exact rfl | exact ⟨rfl, rfl⟩ | refine And.intro ?_ ?_
        · try dsimp only [Ty.T] at h3
          try simp only [castL_self] at h3
          try simp only [Int.toNat_natCast] at h3
          try simp only [Int.toNat_zero] at h3
          have hae : a = A.length := by omega
          subst hae
          refine AWPD.exit ?_
          refine hK17 _ _ ?_
          clear hK17
          -- region 12
          refine AWPD.keep [1, 2, 5, 6, 8, 9] rfl ?_
          refine AWPD.region tabOK rfl ?_
          repeat refine And.intro (by first | exact fun h => h | exact fun _ => rfl | (intro h; rw [h]; rfl) | omega | (intros; (try dsimp only [Ty.T, Ty.size]); (try simp only [castL_self, Int.toNat_natCast, Int.toNat_zero, Int.toNat_one, true_and, List.length_append, List.length_set, List.length_drop, List.length_take, List.length_replicate, List.length_cons, List.length_nil, Nat.zero_add, Nat.mul_one]); omega) | decide | (intros; simp_all; done) | (intros; simp_all; omega)) ?_
          refine ⟨n2 - 1, (p + 1, R3, b3), [0], by omega, ⟨by omega, h3i.nextP⟩, ⟨by decide, rfl⟩, ⟨rfl, trivial⟩, ?_⟩
          repeat' first | exact True.intro | exact rfl | exact ⟨rfl, rfl⟩ | refine And.intro ?_ ?_
      · try dsimp only [Ty.T] at h2
        try simp only [castL_self] at h2
        try simp only [Int.toNat_natCast] at h2
        try simp only [Int.toNat_zero] at h2
        have hpe : p = P.toNat := by omega
        subst hpe
        refine AWPD.exit ?_
        refine ⟨n1 - 1, (R2, b2), [0], by omega, ⟨h2i.good, by
              rcases h2i.st with ⟨e1, e2, e3, e4⟩ | ⟨e1, e2⟩
              · exact .inr ⟨e1, by rw [show R2 = R1 from e2]; exact ⟨e3, e4⟩⟩
              · exact .inl ⟨e1, Nat.lt_of_lt_of_le e2 (by omega)⟩⟩, ⟨by decide, rfl⟩, ⟨rfl, trivial⟩, ?_⟩
        repeat' first | exact True.intro | exact rfl | exact ⟨rfl, rfl⟩ | refine And.intro ?_ ?_
    · try dsimp only [Ty.T] at h1
      try simp only [castL_self] at h1
      try simp only [Int.toNat_natCast] at h1
      try simp only [Int.toNat_zero] at h1
      have hfin : FinA P A N f R1 := by
        rcases hst1 with h | h
        · rw [h.1] at h1; cases h1
        · exact ⟨hg1, h.2.1, h.2.2⟩
      refine AWPD.exit ?_
      refine hK10 _ _ ?_
      clear hK10
      refine AWPD.seq fun K39 hK39 => ?_
      -- region 27
      refine AWPD.keep [2, 5, 6] rfl ?_
      refine AWPD.region tabOK rfl ?_
      refine hK39 _ _ ?_
      clear hK39
      refine AWPD.seq fun K40 hK40 => ?_
      refine AWPD.seq fun K41 hK41 => ?_
      -- region 28
      refine AWPD.keep [2, 5, 6, 14] rfl ?_
      refine AWPD.region tabOK rfl ?_
      refine hK41 _ _ ?_
      clear hK41
      refine AWPD.block ?_
      -- LOOP 6 live [2, 5, 6, 14, 15] changed [14, 15]
      refine AWPD.freezeM (τ := .int) 6 0 (labT N.length P.toNat R1) rfl rfl rfl (osA_rows _ _ _) ?_
      refine AWPD.nilRow 14 22 .val rfl (by decide) ?_
      refine AWPD.rows0 [] ?_
      refine AWPD.loopK (σ := Nat × List Value) [2, 5] (fun z6 base => (6, .sl (.sl .int) (labT N.length P.toNat R1)) :: (14, .ob 0) :: (15, .i (z6.1 : Int)) :: base) (fun z6 => [.row 22 .val z6.2, rowsO z6.2 (osN N.length R1 z6.1)]) (fun n z6 => n + z6.1 = P.toNat ∧ z6.2.length = z6.1) P.toNat (0, []) [1, 2] rfl rfl (⟨by omega, rfl⟩) (by decide) ⟨⟨rfl, rfl, rfl⟩, rfl, trivial⟩ (by repeat' first | exact True.intro | exact rfl | exact ⟨rfl, rfl⟩ | refine And.intro ?_ ?_) fun n6 z6 hI6 => ?_
      obtain ⟨i, hd2⟩ := z6
      obtain ⟨hn6, hdl2⟩ := hI6
      dsimp only at hn6 hdl2 ⊢
      refine AWPD.seq fun K42 hK42 => ?_
      refine AWPD.seq fun K43 hK43 => ?_
      -- region 29
      refine AWPD.keep [2, 5, 6, 14, 15] rfl ?_
      refine AWPD.region tabOK rfl ?_
      repeat refine And.intro (by first | exact fun h => h | exact fun _ => rfl | (intro h; rw [h]; rfl) | omega | (intros; (try dsimp only [Ty.T, Ty.size]); (try simp only [castL_self, Int.toNat_natCast, Int.toNat_zero, Int.toNat_one, true_and, List.length_append, List.length_set, List.length_drop, List.length_take, List.length_replicate, List.length_cons, List.length_nil, Nat.zero_add, Nat.mul_one]); omega) | decide | (intros; simp_all; done) | (intros; simp_all; omega)) ?_
      refine hK43 _ _ ?_
      clear hK43
      first | refine AWPD.condP rfl (fun h8 => ?_) (fun h8 => ?_) | refine AWPD.condN rfl (fun h8 => ?_) (fun h8 => ?_) | refine AWPD.condAP rfl (fun h8 => ?_) (fun h8 => ?_) | refine AWPD.condOP rfl (fun h8 => ?_) (fun h8 => ?_) | refine AWPD.condONN rfl (fun h8 => ?_) (fun h8 => ?_) | refine AWPD.condOPN rfl (fun h8 => ?_) (fun h8 => ?_) | refine AWPD.condA rfl (fun h8 => ?_) (fun h8 => ?_) | refine AWPD.condO rfl (fun h8 => ?_) (fun h8 => ?_) | refine AWPD.cond rfl (fun h8 => ?_) (fun h8 => ?_)
      · try dsimp only [Ty.T] at h8
        try simp only [castL_self] at h8
        try simp only [Int.toNat_natCast] at h8
        try simp only [Int.toNat_zero] at h8
        have hil : i < P.toNat := by omega
        have hti := labT_len N.length P.toNat R1
        refine AWPD.skip ?_
        refine hK42 _ _ ?_
        clear hK42
        refine AWPD.seq fun K44 hK44 => ?_
        refine AWPD.block ?_
        -- region 31
        have hpn := powN_le (k := N.length) (by omega)
        have hpy : ((powN (N.length : Int).toNat : Nat) : Int) - 1 = ((2 ^ N.length - 1 : Nat) : Int) := by
          have := Nat.two_pow_pos N.length
          rw [Int.toNat_natCast]
          unfold powN
          omega
        refine AWPD.keep [2, 5, 6, 14, 15] rfl ?_
        refine AWPD.draw tabOK [8, 10] rfl (by kernel_rfl) ?_
        repeat refine And.intro (by first | exact fun h => h | exact fun _ => rfl | (intro h; rw [h]; rfl) | omega | (intros; (try dsimp only [Ty.T, Ty.size]); (try simp only [castL_self, Int.toNat_natCast, Int.toNat_zero, Int.toNat_one, true_and, List.length_append, List.length_set, List.length_drop, List.length_take, List.length_replicate, List.length_cons, List.length_nil, Nat.zero_add, Nat.mul_one]); omega) | decide | (intros; simp_all; done) | (intros; simp_all; omega)) ?_
        refine Exists.intro _ (Exists.intro _ (And.intro (StepD.call (pow2_fn (N.length : Int) (by omega)) rfl rfl rfl) (And.intro rfl (And.intro rfl ?_))))
        repeat refine And.intro (by first | exact fun h => h | exact fun _ => rfl | (intro h; rw [h]; rfl) | omega | (intros; (try dsimp only [Ty.T, Ty.size]); (try simp only [castL_self, Int.toNat_natCast, Int.toNat_zero, Int.toNat_one, true_and, List.length_append, List.length_set, List.length_drop, List.length_take, List.length_replicate, List.length_cons, List.length_nil, Nat.zero_add, Nat.mul_one]); omega) | decide | (intros; simp_all; done) | (intros; simp_all; omega)) ?_
        refine Exists.intro _ (Exists.intro _ (And.intro (StepD.callN (named_at hil hN _ hpy) rfl rfl (by first | exact rfl | exact row_free _ _ _)) (And.intro rfl (And.intro trivial ?_))))
        refine Exists.intro _ (Exists.intro _ (And.intro (StepD.buildH tabOK rfl rfl rfl rfl) (And.intro rfl (And.intro rfl ?_))))
        refine Exists.intro _ (Exists.intro _ (And.intro (StepD.appendH tabOK rfl rfl rfl rfl rfl (by omega)) (And.intro rfl (And.intro trivial ?_))))
        refine hK44 _ _ ?_
        clear hK44
        -- region 30
        refine AWPD.holeM 1 (.slice none 0 0) rfl ?_
        refine AWPD.absorb (xs := hd2 ++ [(.slice none 0 0 : Value)]) (os := osN N.length R1 i ++ [OD.dead]) 3 1 2 hd2.length (by decide) (by decide) (by decide) rfl rfl rfl (by rw [hdl2]; exact osN_dead _ _ _) (by simp) (flat_int _) fun x2 => ?_
        refine AWPD.keep [2, 5, 6, 14, 15] rfl ?_
        refine AWPD.region tabOK rfl ?_
        repeat refine And.intro (by first | exact fun h => h | exact fun _ => rfl | (intro h; rw [h]; rfl) | omega | (intros; (try dsimp only [Ty.T, Ty.size]); (try simp only [castL_self, Int.toNat_natCast, Int.toNat_zero, Int.toNat_one, true_and, List.length_append, List.length_set, List.length_drop, List.length_take, List.length_replicate, List.length_cons, List.length_nil, Nat.zero_add, Nat.mul_one]); omega) | decide | (intros; simp_all; done) | (intros; simp_all; omega)) ?_
        refine ⟨n6 - 1, (i + 1, (hd2 ++ [(.slice none 0 0 : Value)]).set hd2.length x2), [3, 1], by omega, ⟨by omega, by simp [hdl2]⟩, ⟨by decide, rfl⟩, ⟨⟨rfl, rfl, rfl⟩, (by show rowsC _ ((osN N.length R1 i ++ [OD.dead]).set hd2.length (.row _ .int (outV (R1 i) (2 ^ N.length - 1) N.length N.length))) = rowsC _ _; rw [hdl2, osN_next]), trivial⟩, ?_⟩
        repeat' first | exact True.intro | exact rfl | exact ⟨rfl, rfl⟩ | refine And.intro ?_ ?_
      · try dsimp only [Ty.T] at h8
        try simp only [castL_self] at h8
        try simp only [Int.toNat_natCast] at h8
        try simp only [Int.toNat_zero] at h8
        have hie : i = P.toNat := by omega
        subst hie
        refine AWPD.exit ?_
        refine hK40 _ _ ?_
        clear hK40
        refine AWPD.seq fun K45 hK45 => ?_
        -- region 32
        refine AWPD.freeze 14 rfl rfl rfl ?_
        refine AWPD.freezeM (τ := .int) 14 1 (numT N.length R1 P.toNat) rfl rfl rfl rfl ?_
        refine AWPD.keep [14] rfl ?_
        refine AWPD.region tabOK rfl ?_
        refine hK45 _ _ ?_
        clear hK45
        refine AWPD.ret (And.intro (.inl rfl) ?_)
        -- result 0
        refine RetD.one ?_
        exact fitS rfl (hfin.views hbyA hnx he)
end Go.Proofs.YtndoigkmdcgjfaaDoor
