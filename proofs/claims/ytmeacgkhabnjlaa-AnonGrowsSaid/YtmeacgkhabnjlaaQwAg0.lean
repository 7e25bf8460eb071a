/-
  WALKS of anonFact and of the law AnonGrows.
-/
import Derived.Test.YtmeacgkhabnjlaaQwFw
namespace Go.Proofs.Ytmeacgkhabnjlaa
open Go Go.Qw
set_option maxRecDepth 10000
set_option linter.unusedSimpArgs false
set_option linter.unusedVariables false
set_option linter.unusedSectionVars false
set_option maxHeartbeats 2000000


theorem anf1 : heightsE [[2], [3]] [1] = 0 ∧ fewV [[2], [3]] [1] = 2 := by decide +kernel
theorem anf2 : heightsE [[2], [3]] [0] = 0 ∧ fewV [[2], [3]] [0] = 1 := by decide +kernel
theorem rep_snoc (k : Nat) : List.replicate k (3 : Int) ++ [3] = List.replicate (k + 1) 3 := by rw [← List.replicate_succ']
theorem tk_snoc {l : List Int} {k : Nat} (h : k < l.length) : l.take k ++ [l.getD k 0] = l.take (k + 1) := by
  rw [List.take_add_one, List.getElem?_eq_getElem h]
  simp [List.getD, h]
theorem all_ok {t : List (List Int)} {hs : List Int} (g : HeightsG t hs) : heightsE t (List.replicate hs.length 3) = 0 ∧ fewV t (List.replicate hs.length 3) = t.length := by
  have hg : ∀ k, k < hs.length → (List.replicate hs.length (3 : Int)).getD k 0 = 3 := fun k hk => by simp [List.getD, hk]
  refine ⟨heightsE_ok g.ok (by rw [List.length_replicate, g.len]) fun j hj => ?_, g.rows.few_all fun k hk => hg k (by rw [g.len]; exact hk)⟩
  rw [List.length_replicate] at hj
  unfold heightG
  rw [hg j hj, if_pos (by decide)]
theorem up_ok {t : List (List Int)} {hs : List Int} (g : HeightsG t hs) {i : Nat} (hi : i < hs.length) (h3 : hs.getD i 0 < 3) : heightsE t (hs.set i (hs.getD i 0 + 1)) = 0 ∧ fewV t hs ≤ fewV t (hs.set i (hs.getD i 0 + 1)) := by
  have hg : ∀ k, (hs.set i (hs.getD i 0 + 1)).getD k 0 = if i = k then hs.getD i 0 + 1 else hs.getD k 0 := fun k => by
    simp only [List.getD_eq_getElem?_getD, List.getElem?_set]
    by_cases h : i = k
    · subst h; simp [hi]
    · rw [if_neg h, if_neg h]
  refine ⟨heightsE_ok g.ok (by rw [List.length_set, g.len]) fun j hj => ?_, g.rows.few_mono fun k _ => ?_⟩
  · rw [List.length_set] at hj
    have a := g.in_ j hj
    have b := g.in_ i hi
    unfold heightG
    rw [hg j]
    by_cases h : i = j
    · rw [if_pos h, if_pos (by omega)]
    · rw [if_neg h, if_pos a]
  · have b := g.in_ i hi
    rw [hg k]
    by_cases h : i = k
    · subst h; rw [if_pos rfl]; omega
    · rw [if_neg h]; exact Nat.le_refl _

theorem anonFact_fn  : LiftsD Try.prog 17 [] (.b true) := by
  refine LiftsD.of_body 35 [.tmp 0] Try.func17 rfl Try.ntmps17 (by kernel_rfl) rfl rfl fun w0 X0 => ?_
  refine AWPD.seq fun K1 hK1 => ?_
  -- region 0
  refine AWPD.keep [] rfl ?_
  refine AWPD.region tabOK rfl ?_
  refine hK1 _ _ ?_
  clear hK1
  refine AWPD.seq fun K2 hK2 => ?_
  -- region 1
  refine AWPD.keep [] rfl ?_
  refine AWPD.region tabOK rfl ?_
  refine Exists.intro _ (Exists.intro _ (And.intro (StepD.call (Fewest_fn _ _) rfl rfl rfl) (And.intro rfl (And.intro trivial ?_))))
  refine hK2 _ _ ?_
  clear hK2
  refine AWPD.seq fun K3 hK3 => ?_
  -- region 2
  refine AWPD.keep [1, 2] rfl ?_
  refine AWPD.region tabOK rfl ?_
  refine Exists.intro _ (Exists.intro _ (And.intro (StepD.call (Fewest_fn _ _) rfl rfl rfl) (And.intro rfl (And.intro trivial ?_))))
  refine hK3 _ _ ?_
  clear hK3
  refine AWPD.seq fun K4 hK4 => ?_
  -- region 3
  refine AWPD.keep [1, 2, 3, 4] rfl ?_
  refine AWPD.region tabOK rfl ?_
  repeat refine And.intro (by first | exact fun h => h | exact fun _ => rfl | (intro h; rw [h]; rfl) | omega | (intros; (try dsimp only [Ty.T, Ty.size]); (try simp only [castL_self, Int.toNat_natCast, Int.toNat_zero, Int.toNat_one, true_and, List.length_append, List.length_set, List.length_drop, List.length_take, List.length_replicate, List.length_cons, List.length_nil, Nat.zero_add, Nat.mul_one]); omega) | decide | (intros; simp_all; done) | (intros; simp_all; omega)) ?_
  refine hK4 _ _ ?_
  clear hK4
  refine AWPD.ret (And.intro (.inl rfl) ?_)
  -- result 0
  refine RetD.one ?_
  refine fitB rfl ?_
  rw [anf1.1, anf1.2, anf2.1, anf2.2]
  rfl
theorem anonGrows_fn (t : List (List Int)) (hs : List Int) (i : Int) : LiftsD Try.prog 6 [.sl (.sl .int) t, .sl .int hs, .i i] (.b true) := by
  refine LiftsD.of_body 102 [.tmp 6] Try.func6 rfl Try.ntmps6 (by kernel_rfl) rfl rfl fun w0 X0 => ?_
  refine AWPD.seq fun K1 hK1 => ?_
  -- region 0
  refine AWPD.keep [0, 1, 2] rfl ?_
  refine AWPD.region tabOK rfl ?_
  refine hK1 _ _ ?_
  clear hK1
  refine AWPD.seq fun K2 hK2 => ?_
  -- region 1
  refine AWPD.keep [0, 1, 2] rfl ?_
  refine AWPD.region tabOK rfl ?_
  refine Exists.intro _ (Exists.intro _ (And.intro (StepD.call (anonFact_fn) rfl rfl rfl) (And.intro rfl (And.intro trivial ?_))))
  refine hK2 _ _ ?_
  clear hK2
  refine AWPD.seq fun K3 hK3 => ?_
  refine AWPD.seq fun K4 hK4 => ?_
  -- region 2
  refine AWPD.keep [0, 1, 2, 7] rfl ?_
  refine AWPD.region tabOK rfl ?_
  refine hK4 _ _ ?_
  clear hK4
  first | refine AWPD.condP rfl (fun h0 => ?_) (fun h0 => ?_) | refine AWPD.condN rfl (fun h0 => ?_) (fun h0 => ?_) | refine AWPD.condAP rfl (fun h0 => ?_) (fun h0 => ?_) | refine AWPD.condOP rfl (fun h0 => ?_) (fun h0 => ?_) | refine AWPD.condONN rfl (fun h0 => ?_) (fun h0 => ?_) | refine AWPD.condOPN rfl (fun h0 => ?_) (fun h0 => ?_) | refine AWPD.condA rfl (fun h0 => ?_) (fun h0 => ?_) | refine AWPD.condO rfl (fun h0 => ?_) (fun h0 => ?_) | refine AWPD.cond rfl (fun h0 => ?_) (fun h0 => ?_)
  · try dsimp only [Ty.T] at h0
    try simp only [castL_self] at h0
    try simp only [Int.toNat_natCast] at h0
    try simp only [Int.toNat_zero] at h0
    cases h0
  · try dsimp only [Ty.T] at h0
    try simp only [castL_self] at h0
    try simp only [Int.toNat_natCast] at h0
    try simp only [Int.toNat_zero] at h0
    refine AWPD.skip ?_
    refine hK3 _ _ ?_
    clear hK3
    refine AWPD.seq fun K5 hK5 => ?_
    -- region 4
    refine AWPD.keep [0, 1, 2] rfl ?_
    refine AWPD.region tabOK rfl ?_
    refine Exists.intro _ (Exists.intro _ (And.intro (StepD.call (Fewest_fn _ _) rfl rfl rfl) (And.intro rfl (And.intro trivial ?_))))
    refine hK5 _ _ ?_
    clear hK5
    refine AWPD.seq fun K6 hK6 => ?_
    refine AWPD.seq fun K7 hK7 => ?_
    -- region 5
    refine AWPD.keep [0, 1, 2, 8, 9] rfl ?_
    refine AWPD.region tabOK rfl ?_
    refine hK7 _ _ ?_
    clear hK7
    first | refine AWPD.condP rfl (fun h1 => ?_) (fun h1 => ?_) | refine AWPD.condN rfl (fun h1 => ?_) (fun h1 => ?_) | refine AWPD.condAP rfl (fun h1 => ?_) (fun h1 => ?_) | refine AWPD.condOP rfl (fun h1 => ?_) (fun h1 => ?_) | refine AWPD.condONN rfl (fun h1 => ?_) (fun h1 => ?_) | refine AWPD.condOPN rfl (fun h1 => ?_) (fun h1 => ?_) | refine AWPD.condA rfl (fun h1 => ?_) (fun h1 => ?_) | refine AWPD.condO rfl (fun h1 => ?_) (fun h1 => ?_) | refine AWPD.cond rfl (fun h1 => ?_) (fun h1 => ?_)
    · try dsimp only [Ty.T] at h1
      try simp only [castL_self] at h1
      try simp only [Int.toNat_natCast] at h1
      try simp only [Int.toNat_zero] at h1
      have h1 : heightsE t hs ≠ 0 := by simpa using h1
      refine AWPD.seq fun K8 hK8 => ?_
      -- region 6
      refine AWPD.keep [8] rfl ?_
      refine AWPD.region tabOK rfl ?_
      refine hK8 _ _ ?_
      clear hK8
      refine AWPD.ret (And.intro (.inl rfl) ?_)
      -- result 0
      refine RetD.one ?_
      exact fitB rfl (by rw [if_neg h1]; rfl)
    · try dsimp only [Ty.T] at h1
      try simp only [castL_self] at h1
      try simp only [Int.toNat_natCast] at h1
      try simp only [Int.toNat_zero] at h1
      have h1 : heightsE t hs = 0 := by simpa using h1
      simp only [h1, if_true]
      have g := heights_good h1
      have gf := g.rows.few
      have gc := g.rows.cols
      have gl := g.len
      have gs := g.rows.some
      have fp := fewV_pos (t := t) (hs := hs) gs
      have fl := fewV_le (t := t) (hs := hs)
      have hall := all_ok g
      refine AWPD.skip ?_
      refine hK6 _ _ ?_
      clear hK6
      refine AWPD.seq fun K9 hK9 => ?_
      refine AWPD.seq fun K10 hK10 => ?_
      -- region 7
      refine AWPD.keep [0, 1, 2, 8] rfl ?_
      refine AWPD.region tabOK rfl ?_
      repeat refine And.intro (by first | exact fun h => h | exact fun _ => rfl | (intro h; rw [h]; rfl) | omega | (intros; (try dsimp only [Ty.T, Ty.size]); (try simp only [castL_self, Int.toNat_natCast, Int.toNat_zero, Int.toNat_one, true_and, List.length_append, List.length_set, List.length_drop, List.length_take, List.length_replicate, List.length_cons, List.length_nil, Nat.zero_add, Nat.mul_one]); omega) | decide | (intros; simp_all; done) | (intros; simp_all; omega)) ?_
      refine hK10 _ _ ?_
      clear hK10
      first | refine AWPD.condP rfl (fun h2 => ?_) (fun h2 => ?_) | refine AWPD.condN rfl (fun h2 => ?_) (fun h2 => ?_) | refine AWPD.condAP rfl (fun h2 => ?_) (fun h2 => ?_) | refine AWPD.condOP rfl (fun h2 => ?_) (fun h2 => ?_) | refine AWPD.condONN rfl (fun h2 => ?_) (fun h2 => ?_) | refine AWPD.condOPN rfl (fun h2 => ?_) (fun h2 => ?_) | refine AWPD.condA rfl (fun h2 => ?_) (fun h2 => ?_) | refine AWPD.condO rfl (fun h2 => ?_) (fun h2 => ?_) | refine AWPD.cond rfl (fun h2 => ?_) (fun h2 => ?_)
      · try dsimp only [Ty.T] at h2
        try simp only [castL_self] at h2
        try simp only [Int.toNat_natCast] at h2
        try simp only [Int.toNat_zero] at h2
        exfalso; omega
      · try dsimp only [Ty.T] at h2
        try simp only [castL_self] at h2
        try simp only [Int.toNat_natCast] at h2
        try simp only [Int.toNat_zero] at h2
        refine AWPD.skip ?_
        refine hK9 _ _ ?_
        clear hK9
        refine AWPD.seq fun K11 hK11 => ?_
        -- region 9
        refine AWPD.keep [0, 1, 2, 8] rfl ?_
        refine AWPD.region tabOK rfl ?_
        refine hK11 _ _ ?_
        clear hK11
        refine AWPD.seq fun K12 hK12 => ?_
        refine AWPD.seq fun K13 hK13 => ?_
        -- region 10
        refine AWPD.keep [0, 1, 2, 8, 10, 11] rfl ?_
        refine AWPD.region tabOK rfl ?_
        refine hK13 _ _ ?_
        clear hK13
        refine AWPD.block ?_
        -- LOOP 0 live [0, 1, 2, 8, 10, 11, 12] changed [10, 11, 12]
        refine AWPD.nilRow 10 3 .int rfl (by decide) ?_
        refine AWPD.nilRow 11 3 .int rfl (by decide) ?_
        refine AWPD.loopK (σ := Nat) [0, 1, 2, 8] (fun k base => (10, .ob 0) :: (11, .ob 1) :: (12, .i (k : Int)) :: base) (fun k => [.row 3 .int (List.replicate k (3 : Int)), .row 3 .int (hs.take k)]) (fun n k => n + k = hs.length) (hs.length) 0 [0, 1] rfl rfl (by omega) (by decide) ⟨⟨rfl, rfl, rfl⟩, ⟨rfl, rfl, rfl⟩, trivial⟩ (by repeat' first | exact True.intro | exact rfl | exact ⟨rfl, rfl⟩ | refine And.intro ?_ ?_) fun n0 k hI0 => ?_
        have hn0 := hI0
        refine AWPD.seq fun K14 hK14 => ?_
        refine AWPD.seq fun K15 hK15 => ?_
        -- region 11
        refine AWPD.keep [0, 1, 2, 8, 10, 11, 12] rfl ?_
        refine AWPD.region tabOK rfl ?_
        refine hK15 _ _ ?_
        clear hK15
        first | refine AWPD.condP rfl (fun h3 => ?_) (fun h3 => ?_) | refine AWPD.condN rfl (fun h3 => ?_) (fun h3 => ?_) | refine AWPD.condAP rfl (fun h3 => ?_) (fun h3 => ?_) | refine AWPD.condOP rfl (fun h3 => ?_) (fun h3 => ?_) | refine AWPD.condONN rfl (fun h3 => ?_) (fun h3 => ?_) | refine AWPD.condOPN rfl (fun h3 => ?_) (fun h3 => ?_) | refine AWPD.condA rfl (fun h3 => ?_) (fun h3 => ?_) | refine AWPD.condO rfl (fun h3 => ?_) (fun h3 => ?_) | refine AWPD.cond rfl (fun h3 => ?_) (fun h3 => ?_)
        · try dsimp only [Ty.T] at h3
          try simp only [castL_self] at h3
          try simp only [Int.toNat_natCast] at h3
          try simp only [Int.toNat_zero] at h3
          refine AWPD.skip ?_
          refine hK14 _ _ ?_
          clear hK14
          refine AWPD.seq fun K16 hK16 => ?_
          refine AWPD.block ?_
          refine AWPD.seq fun K17 hK17 => ?_
          -- region 13
          refine AWPD.keep [0, 1, 2, 8, 10, 11, 12] rfl ?_
          refine AWPD.region tabOK rfl ?_
          repeat refine And.intro (by first | exact fun h => h | exact fun _ => rfl | (intro h; rw [h]; rfl) | omega | (intros; (try dsimp only [Ty.T, Ty.size]); (try simp only [castL_self, Int.toNat_natCast, Int.toNat_zero, Int.toNat_one, true_and, List.length_append, List.length_set, List.length_drop, List.length_take, List.length_replicate, List.length_cons, List.length_nil, Nat.zero_add, Nat.mul_one]); omega) | decide | (intros; simp_all; done) | (intros; simp_all; omega)) ?_
          refine hK17 _ _ ?_
          clear hK17
          -- region 14
          refine AWPD.keep [0, 1, 2, 8, 10, 11, 12] rfl ?_
          refine AWPD.region tabOK rfl ?_
          repeat refine And.intro (by first | exact fun h => h | exact fun _ => rfl | (intro h; rw [h]; rfl) | omega | (intros; (try dsimp only [Ty.T, Ty.size]); (try simp only [castL_self, Int.toNat_natCast, Int.toNat_zero, Int.toNat_one, true_and, List.length_append, List.length_set, List.length_drop, List.length_take, List.length_replicate, List.length_cons, List.length_nil, Nat.zero_add, Nat.mul_one]); omega) | decide | (intros; simp_all; done) | (intros; simp_all; omega)) ?_
          refine hK16 _ _ ?_
          clear hK16
          -- region 12
          refine AWPD.keep [0, 1, 2, 8, 10, 11, 12] rfl ?_
          refine AWPD.region tabOK rfl ?_
          repeat refine And.intro (by first | exact fun h => h | exact fun _ => rfl | (intro h; rw [h]; rfl) | omega | (intros; (try dsimp only [Ty.T, Ty.size]); (try simp only [castL_self, Int.toNat_natCast, Int.toNat_zero, Int.toNat_one, true_and, List.length_append, List.length_set, List.length_drop, List.length_take, List.length_replicate, List.length_cons, List.length_nil, Nat.zero_add, Nat.mul_one]); omega) | decide | (intros; simp_all; done) | (intros; simp_all; omega)) ?_
          refine ⟨n0 - 1, k + 1, [2, 3], by omega, by omega, ⟨by decide, rfl⟩, ⟨⟨rfl, rfl, rep_snoc k⟩, ⟨rfl, rfl, tk_snoc (by omega)⟩, trivial⟩, ?_⟩
          repeat' first | exact True.intro | exact rfl | exact ⟨rfl, rfl⟩ | refine And.intro ?_ ?_
        · try dsimp only [Ty.T] at h3
          try simp only [castL_self] at h3
          try simp only [Int.toNat_natCast] at h3
          try simp only [Int.toNat_zero] at h3
          have hk : k = hs.length := by omega
          subst hk
          simp only [List.take_length]
          refine AWPD.exit ?_
          refine hK12 _ _ ?_
          clear hK12
          refine AWPD.seq fun K18 hK18 => ?_
          -- region 15
          refine AWPD.keep [0, 2, 8, 10, 11] rfl ?_
          refine AWPD.region tabOK rfl ?_
          refine Exists.intro _ (Exists.intro _ (And.intro (StepD.callS (Fewest_fn t (List.replicate hs.length 3)) rfl rfl rfl) (And.intro rfl (And.intro trivial ?_))))
          refine hK18 _ _ ?_
          clear hK18
          refine AWPD.seq fun K19 hK19 => ?_
          refine AWPD.seq fun K20 hK20 => ?_
          -- region 16
          refine AWPD.keep [0, 2, 8, 11, 13, 14] rfl ?_
          refine AWPD.region tabOK rfl ?_
          repeat refine And.intro (by first | exact fun h => h | exact fun _ => rfl | (intro h; rw [h]; rfl) | omega | (intros; (try dsimp only [Ty.T, Ty.size]); (try simp only [castL_self, Int.toNat_natCast, Int.toNat_zero, Int.toNat_one, true_and, List.length_append, List.length_set, List.length_drop, List.length_take, List.length_replicate, List.length_cons, List.length_nil, Nat.zero_add, Nat.mul_one]); omega) | decide | (intros; simp_all; done) | (intros; simp_all; omega)) ?_
          refine hK20 _ _ ?_
          clear hK20
          first | refine AWPD.condP rfl (fun h4 => ?_) (fun h4 => ?_) | refine AWPD.condN rfl (fun h4 => ?_) (fun h4 => ?_) | refine AWPD.condAP rfl (fun h4 => ?_) (fun h4 => ?_) | refine AWPD.condOP rfl (fun h4 => ?_) (fun h4 => ?_) | refine AWPD.condONN rfl (fun h4 => ?_) (fun h4 => ?_) | refine AWPD.condOPN rfl (fun h4 => ?_) (fun h4 => ?_) | refine AWPD.condA rfl (fun h4 => ?_) (fun h4 => ?_) | refine AWPD.condO rfl (fun h4 => ?_) (fun h4 => ?_) | refine AWPD.cond rfl (fun h4 => ?_) (fun h4 => ?_)
          · try dsimp only [Ty.T] at h4
            try simp only [castL_self] at h4
            try simp only [Int.toNat_natCast] at h4
            try simp only [Int.toNat_zero] at h4
            exfalso; simp [hall.1, hall.2] at h4
          · try dsimp only [Ty.T] at h4
            try simp only [castL_self] at h4
            try simp only [Int.toNat_natCast] at h4
            try simp only [Int.toNat_zero] at h4
            refine AWPD.skip ?_
            refine hK19 _ _ ?_
            clear hK19
            refine AWPD.seq fun K21 hK21 => ?_
            refine AWPD.seq fun K22 hK22 => ?_
            -- region 18
            refine AWPD.keep [0, 2, 8, 11] rfl ?_
            refine AWPD.region tabOK rfl ?_
            repeat refine And.intro (by first | exact fun h => h | exact fun _ => rfl | (intro h; rw [h]; rfl) | omega | (intros; (try dsimp only [Ty.T, Ty.size]); (try simp only [castL_self, Int.toNat_natCast, Int.toNat_zero, Int.toNat_one, true_and, List.length_append, List.length_set, List.length_drop, List.length_take, List.length_replicate, List.length_cons, List.length_nil, Nat.zero_add, Nat.mul_one]); omega) | decide | (intros; simp_all; done) | (intros; simp_all; omega)) ?_
            refine hK22 _ _ ?_
            clear hK22
            first | refine AWPD.condP rfl (fun h5 => ?_) (fun h5 => ?_) | refine AWPD.condN rfl (fun h5 => ?_) (fun h5 => ?_) | refine AWPD.condAP rfl (fun h5 => ?_) (fun h5 => ?_) | refine AWPD.condOP rfl (fun h5 => ?_) (fun h5 => ?_) | refine AWPD.condONN rfl (fun h5 => ?_) (fun h5 => ?_) | refine AWPD.condOPN rfl (fun h5 => ?_) (fun h5 => ?_) | refine AWPD.condA rfl (fun h5 => ?_) (fun h5 => ?_) | refine AWPD.condO rfl (fun h5 => ?_) (fun h5 => ?_) | refine AWPD.cond rfl (fun h5 => ?_) (fun h5 => ?_)
            · try dsimp only [Ty.T] at h5
              try simp only [castL_self] at h5
              try simp only [Int.toNat_natCast] at h5
              try simp only [Int.toNat_zero] at h5
              refine AWPD.seq fun K23 hK23 => ?_
              -- region 19
              refine AWPD.keep [] rfl ?_
              refine AWPD.region tabOK rfl ?_
              refine hK23 _ _ ?_
              clear hK23
              refine AWPD.ret (And.intro (.inl rfl) ?_)
              -- result 1
              refine RetD.one ?_
              exact fitB rfl rfl
            · try dsimp only [Ty.T] at h5
              try simp only [castL_self] at h5
              try simp only [Int.toNat_natCast] at h5
              try simp only [Int.toNat_zero] at h5
              simp only [Bool.cond_true_left, Bool.or_eq_false_iff, decide_eq_false_iff_not] at h5
              have h53 : hs.getD i.toNat 0 < 3 := Int.not_le.1 (of_decide_eq_false h5.2)
              have h51 := h5.1
              have hi : 0 ≤ i ∧ i < hs.length ∧ hs.getD i.toNat 0 < 3 := ⟨by omega, by omega, h53⟩
              have hin := g.in_ i.toNat (by omega)
              have hit : i.toNat < hs.length := by omega
              have hup := up_ok g (i := i.toNat) (by omega) hi.2.2
              refine AWPD.skip ?_
              refine hK21 _ _ ?_
              clear hK21
              refine AWPD.seq fun K24 hK24 => ?_
              -- region 20
              refine AWPD.keep [0, 2, 8, 11] rfl ?_
              refine AWPD.region tabOK rfl ?_
              repeat refine And.intro (by first | exact fun h => h | exact fun _ => rfl | (intro h; rw [h]; rfl) | omega | (intros; (try dsimp only [Ty.T, Ty.size]); (try simp only [castL_self, Int.toNat_natCast, Int.toNat_zero, Int.toNat_one, true_and, List.length_append, List.length_set, List.length_drop, List.length_take, List.length_replicate, List.length_cons, List.length_nil, Nat.zero_add, Nat.mul_one]); omega) | decide | (intros; simp_all; done) | (intros; simp_all; omega)) ?_
              refine hK24 _ _ ?_
              clear hK24
              refine AWPD.seq fun K25 hK25 => ?_
              -- region 21
              refine AWPD.keep [0, 8, 11] rfl ?_
              refine AWPD.region tabOK rfl ?_
              refine Exists.intro _ (Exists.intro _ (And.intro (StepD.callS (Fewest_fn t (hs.set i.toNat (hs.getD i.toNat 0 + 1))) rfl rfl rfl) (And.intro rfl (And.intro trivial ?_))))
              refine hK25 _ _ ?_
              clear hK25
              refine AWPD.seq fun K26 hK26 => ?_
              -- region 22
              refine AWPD.keep [8, 15, 16] rfl ?_
              refine AWPD.region tabOK rfl ?_
              repeat refine And.intro (by first | exact fun h => h | exact fun _ => rfl | (intro h; rw [h]; rfl) | omega | (intros; (try dsimp only [Ty.T, Ty.size]); (try simp only [castL_self, Int.toNat_natCast, Int.toNat_zero, Int.toNat_one, true_and, List.length_append, List.length_set, List.length_drop, List.length_take, List.length_replicate, List.length_cons, List.length_nil, Nat.zero_add, Nat.mul_one]); omega) | decide | (intros; simp_all; done) | (intros; simp_all; omega)) ?_
              refine hK26 _ _ ?_
              clear hK26
              refine AWPD.ret (And.intro (.inl rfl) ?_)
              -- result 2
              refine RetD.one ?_
              refine fitB rfl ?_
              have e := hup.1
              have l := hup.2
              generalize hs.set i.toNat (hs.getD i.toNat 0 + 1) = m at e l ⊢
              simp [e]
              omega
end Go.Proofs.Ytmeacgkhabnjlaa
