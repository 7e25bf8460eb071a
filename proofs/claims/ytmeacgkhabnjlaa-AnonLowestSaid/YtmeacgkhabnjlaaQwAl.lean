/-
  WALKS of anonFact and of the law AnonLowest.
-/
import Derived.Test.YtmeacgkhabnjlaaQwLw
namespace Go.Proofs.Ytmeacgkhabnjlaa
open Go Go.Qw
set_option maxRecDepth 10000
set_option linter.unusedSimpArgs false
set_option linter.unusedVariables false
set_option linter.unusedSectionVars false
set_option maxHeartbeats 2000000


theorem anf1 : heightsE [[2], [3]] [1] = 0 ∧ fewV [[2], [3]] [1] = 2 := by decide +kernel
theorem anf2 : heightsE [[2], [3]] [0] = 0 ∧ fewV [[2], [3]] [0] = 1 := by decide +kernel
def okL (hs l : List Int) : Prop := l.length = hs.length ∧ ∀ k, k < hs.length → l.getD k 0 ≤ hs.getD k 0
structure LowG (t : List (List Int)) (m : Int) (L : List (List Int)) : Prop where
  few : L.length ≤ 64
  ok : ∀ l ∈ L, heightsE t l = 0 ∧ m ≤ (fewV t l : Int)
  dig : ∀ l ∈ L, l.length ≤ 3 ∧ ∀ k, k < l.length → 0 ≤ l.getD k 0 ∧ l.getD k 0 ≤ 3
  less : ∀ l ∈ L, ∀ k, k < l.length → l.getD k 0 ≠ 0 → heightsE t (l.set k (l.getD k 0 - 1)) = 0 ∧ (fewV t (l.set k (l.getD k 0 - 1)) : Int) < m
  cov : ∀ hs, heightsE t hs = 0 → m ≤ (fewV t hs : Int) → ∃ l ∈ L, okL hs l
theorem low_facts {t : List (List Int)} {m : Int} (h : lowE t m = 0) : LowG t m (lowV t m) := by
  have h0 : rowsE t = 0 := by
    unfold lowE at h
    by_cases h0 : rowsE t = 0
    · exact h0
    · rw [if_pos h0] at h; exact absurd h h0
  have g := rows_good h0
  have hV : lowV t m = lowL t m (t.getD 0 []).length (4 ^ (t.getD 0 []).length) := by unfold lowV; rw [if_pos h]
  rw [hV]
  have gc := g.cols
  have hgd : ∀ d, HeightsG t (vec (t.getD 0 []).length d) := fun d => ⟨g, h0, by rw [vec_len], fun k hk => vec_in (by rw [vec_len] at hk; exact hk)⟩
  have hfew := lowL_len (t := t) (m := m) (n := (t.getD 0 []).length) (4 ^ (t.getD 0 []).length)
  have hp := pow_few gc
  refine ⟨by omega, fun l hl => ?_, fun l hl => ?_, fun l hl k hk hne => ?_, fun hs hE hm => ?_⟩
  · obtain ⟨d, _, rfl, hg, _⟩ := lowL_mem.1 hl
    exact ⟨heights_zero (hgd d), of_decide_eq_true hg⟩
  · obtain ⟨d, _, rfl, hg, _⟩ := lowL_mem.1 hl
    exact ⟨by rw [vec_len]; exact gc, (hgd d).in_⟩
  · have hlen := lowL_row hl
    obtain ⟨h1, d, _, e⟩ := low_less gc hl (by omega) hne
    refine ⟨?_, h1⟩
    rw [e]
    exact heights_zero (hgd d)
  · have gh := heights_good hE
    obtain ⟨d, hd, rfl⟩ := vec_of gc gh.len (fun k hk => gh.in_ k (by rw [gh.len]; exact hk))
    obtain ⟨l, hl, hb⟩ := low_cover (t := t) (m := m) hd (decide_eq_true hm)
    have hlen := lowL_row hl
    refine ⟨l, hl, by rw [hlen, vec_len], fun k hk => belowB_iff.1 hb k ?_⟩
    rw [vec_len] at hk
    omega

theorem anonFact_fn  : LiftsD Try.prog 17 [] (.b true) := by
  refine LiftsD.of_body 35 [.tmp 0] Try.func17 rfl Try.ntmps17 (by kernel_rfl) rfl rfl fun w0 X0 => ?_
  refine AWPD.seq fun K1 hK1 => ?_
  -- region 0
  refine AWPD.keep [] rfl ?_
  refine AWPD.region tabOK rfl ?_
  refine hK1 _ _ ?_
  clear hK1
  refine AWPD.seq fun K2 hK2 => ?_
  -- region 1
  refine AWPD.keep [] rfl ?_
  refine AWPD.region tabOK rfl ?_
  refine Exists.intro _ (Exists.intro _ (And.intro (StepD.call (Fewest_fn _ _) rfl rfl rfl) (And.intro rfl (And.intro trivial ?_))))
  refine hK2 _ _ ?_
  clear hK2
  refine AWPD.seq fun K3 hK3 => ?_
  -- region 2
  refine AWPD.keep [1, 2] rfl ?_
  refine AWPD.region tabOK rfl ?_
  refine Exists.intro _ (Exists.intro _ (And.intro (StepD.call (Fewest_fn _ _) rfl rfl rfl) (And.intro rfl (And.intro trivial ?_))))
  refine hK3 _ _ ?_
  clear hK3
  refine AWPD.seq fun K4 hK4 => ?_
  -- region 3
  refine AWPD.keep [1, 2, 3, 4] rfl ?_
  refine AWPD.region tabOK rfl ?_
  repeat refine And.intro (by first | exact fun h => h | exact fun _ => rfl | (intro h; rw [h]; rfl) | omega | (intros; (try dsimp only [Ty.T, Ty.size]); (try simp only [castL_self, Int.toNat_natCast, Int.toNat_zero, Int.toNat_one, true_and, List.length_append, List.length_set, List.length_drop, List.length_take, List.length_replicate, List.length_cons, List.length_nil, Nat.zero_add, Nat.mul_one]); omega) | decide | (intros; simp_all; done) | (intros; simp_all; omega)) ?_
  refine hK4 _ _ ?_
  clear hK4
  refine AWPD.ret (And.intro (.inl rfl) ?_)
  -- result 0
  refine RetD.one ?_
  refine fitB rfl ?_
  rw [anf1.1, anf1.2, anf2.1, anf2.2]
  rfl
theorem anonLowest_fn (t : List (List Int)) (m : Int) (hs : List Int) : LiftsD Try.prog 7 [.sl (.sl .int) t, .i m, .sl .int hs] (.b true) := by
  refine LiftsD.of_body 149 [.tmp 6] Try.func7 rfl Try.ntmps7 (by kernel_rfl) rfl rfl fun w0 X0 => ?_
  refine AWPD.seq fun K1 hK1 => ?_
  -- region 0
  refine AWPD.keep [0, 1, 2] rfl ?_
  refine AWPD.region tabOK rfl ?_
  refine hK1 _ _ ?_
  clear hK1
  refine AWPD.seq fun K2 hK2 => ?_
  -- region 1
  refine AWPD.keep [0, 1, 2] rfl ?_
  refine AWPD.region tabOK rfl ?_
  refine Exists.intro _ (Exists.intro _ (And.intro (StepD.call (anonFact_fn) rfl rfl rfl) (And.intro rfl (And.intro trivial ?_))))
  refine hK2 _ _ ?_
  clear hK2
  refine AWPD.seq fun K3 hK3 => ?_
  refine AWPD.seq fun K4 hK4 => ?_
  -- region 2
  refine AWPD.keep [0, 1, 2, 7] rfl ?_
  refine AWPD.region tabOK rfl ?_
  refine hK4 _ _ ?_
  clear hK4
  first | refine AWPD.condP rfl (fun h0 => ?_) (fun h0 => ?_) | refine AWPD.condN rfl (fun h0 => ?_) (fun h0 => ?_) | refine AWPD.condAP rfl (fun h0 => ?_) (fun h0 => ?_) | refine AWPD.condOP rfl (fun h0 => ?_) (fun h0 => ?_) | refine AWPD.condONN rfl (fun h0 => ?_) (fun h0 => ?_) | refine AWPD.condOPN rfl (fun h0 => ?_) (fun h0 => ?_) | refine AWPD.condA rfl (fun h0 => ?_) (fun h0 => ?_) | refine AWPD.condO rfl (fun h0 => ?_) (fun h0 => ?_) | refine AWPD.cond rfl (fun h0 => ?_) (fun h0 => ?_)
  · try dsimp only [Ty.T] at h0
    try simp only [castL_self] at h0
    try simp only [Int.toNat_natCast] at h0
    try simp only [Int.toNat_zero] at h0
    cases h0
  · try dsimp only [Ty.T] at h0
    try simp only [castL_self] at h0
    try simp only [Int.toNat_natCast] at h0
    try simp only [Int.toNat_zero] at h0
    refine AWPD.skip ?_
    refine hK3 _ _ ?_
    clear hK3
    refine AWPD.seq fun K5 hK5 => ?_
    -- region 4
    refine AWPD.keep [0, 1, 2] rfl ?_
    refine AWPD.region tabOK rfl ?_
    refine Exists.intro _ (Exists.intro _ (And.intro (StepD.call (Lowest_fn _ _) rfl rfl rfl) (And.intro rfl (And.intro trivial ?_))))
    refine hK5 _ _ ?_
    clear hK5
    refine AWPD.seq fun K6 hK6 => ?_
    refine AWPD.seq fun K7 hK7 => ?_
    -- region 5
    refine AWPD.keep [0, 1, 2, 8, 9] rfl ?_
    refine AWPD.region tabOK rfl ?_
    refine hK7 _ _ ?_
    clear hK7
    first | refine AWPD.condP rfl (fun h1 => ?_) (fun h1 => ?_) | refine AWPD.condN rfl (fun h1 => ?_) (fun h1 => ?_) | refine AWPD.condAP rfl (fun h1 => ?_) (fun h1 => ?_) | refine AWPD.condOP rfl (fun h1 => ?_) (fun h1 => ?_) | refine AWPD.condONN rfl (fun h1 => ?_) (fun h1 => ?_) | refine AWPD.condOPN rfl (fun h1 => ?_) (fun h1 => ?_) | refine AWPD.condA rfl (fun h1 => ?_) (fun h1 => ?_) | refine AWPD.condO rfl (fun h1 => ?_) (fun h1 => ?_) | refine AWPD.cond rfl (fun h1 => ?_) (fun h1 => ?_)
    · try dsimp only [Ty.T] at h1
      try simp only [castL_self] at h1
      try simp only [Int.toNat_natCast] at h1
      try simp only [Int.toNat_zero] at h1
      have h1 : lowE t m ≠ 0 := by simpa using h1
      refine AWPD.seq fun K8 hK8 => ?_
      -- region 6
      refine AWPD.keep [8] rfl ?_
      refine AWPD.region tabOK rfl ?_
      refine hK8 _ _ ?_
      clear hK8
      refine AWPD.ret (And.intro (.inl rfl) ?_)
      -- result 0
      refine RetD.one ?_
      exact fitB rfl (by unfold lowV; rw [if_neg h1]; rfl)
    · try dsimp only [Ty.T] at h1
      try simp only [castL_self] at h1
      try simp only [Int.toNat_natCast] at h1
      try simp only [Int.toNat_zero] at h1
      have h1 : lowE t m = 0 := by simpa using h1
      have gL := low_facts h1
      revert gL
      clear h1
      generalize lowV t m = L
      intro gL
      have hfew := gL.few
      refine AWPD.skip ?_
      refine hK6 _ _ ?_
      clear hK6
      refine AWPD.seq fun K9 hK9 => ?_
      refine AWPD.seq fun K10 hK10 => ?_
      -- region 7
      refine AWPD.keep [0, 1, 2, 8] rfl ?_
      refine AWPD.region tabOK rfl ?_
      refine hK10 _ _ ?_
      clear hK10
      refine AWPD.block ?_
      -- LOOP 0 live [0, 1, 2, 8, 10] changed [10]
      refine AWPD.loopK (σ := Nat) [0, 1, 2, 8] (fun i base => (10, .i (i : Int)) :: base) (fun _ => []) (fun n i => n + i = L.length) (L.length) 0 [] rfl rfl (by omega) (by decide) trivial (by repeat' first | exact True.intro | exact rfl | exact ⟨rfl, rfl⟩ | refine And.intro ?_ ?_) fun n0 i hI0 => ?_
      have hn0 := hI0
      refine AWPD.seq fun K11 hK11 => ?_
      refine AWPD.seq fun K12 hK12 => ?_
      -- region 8
      refine AWPD.keep [0, 1, 2, 8, 10] rfl ?_
      refine AWPD.region tabOK rfl ?_
      refine hK12 _ _ ?_
      clear hK12
      first | refine AWPD.condP rfl (fun h2 => ?_) (fun h2 => ?_) | refine AWPD.condN rfl (fun h2 => ?_) (fun h2 => ?_) | refine AWPD.condAP rfl (fun h2 => ?_) (fun h2 => ?_) | refine AWPD.condOP rfl (fun h2 => ?_) (fun h2 => ?_) | refine AWPD.condONN rfl (fun h2 => ?_) (fun h2 => ?_) | refine AWPD.condOPN rfl (fun h2 => ?_) (fun h2 => ?_) | refine AWPD.condA rfl (fun h2 => ?_) (fun h2 => ?_) | refine AWPD.condO rfl (fun h2 => ?_) (fun h2 => ?_) | refine AWPD.cond rfl (fun h2 => ?_) (fun h2 => ?_)
      · try dsimp only [Ty.T] at h2
        try simp only [castL_self] at h2
        try simp only [Int.toNat_natCast] at h2
        try simp only [Int.toNat_zero] at h2
        have hmem : L.getD i [] ∈ L := getD_mem (show i < L.length by omega) []
        have gok := gL.ok _ hmem
        have gdig := gL.dig _ hmem
        have gless := gL.less _ hmem
        refine AWPD.skip ?_
        refine hK11 _ _ ?_
        clear hK11
        refine AWPD.seq fun K13 hK13 => ?_
        refine AWPD.block ?_
        refine AWPD.seq fun K14 hK14 => ?_
        -- region 10
        refine AWPD.keep [0, 1, 2, 8, 10] rfl ?_
        refine AWPD.region tabOK rfl ?_
        repeat refine And.intro (by first | exact fun h => h | exact fun _ => rfl | (intro h; rw [h]; rfl) | omega | (intros; (try dsimp only [Ty.T, Ty.size]); (try simp only [castL_self, Int.toNat_natCast, Int.toNat_zero, Int.toNat_one, true_and, List.length_append, List.length_set, List.length_drop, List.length_take, List.length_replicate, List.length_cons, List.length_nil, Nat.zero_add, Nat.mul_one]); omega) | decide | (intros; simp_all; done) | (intros; simp_all; omega)) ?_
        refine Exists.intro _ (Exists.intro _ (And.intro (StepD.call (Fewest_fn _ _) rfl rfl rfl) (And.intro rfl (And.intro trivial ?_))))
        refine hK14 _ _ ?_
        clear hK14
        refine AWPD.seq fun K15 hK15 => ?_
        refine AWPD.seq fun K16 hK16 => ?_
        -- region 11
        refine AWPD.keep [0, 1, 2, 8, 10, 11, 12] rfl ?_
        refine AWPD.region tabOK rfl ?_
        repeat refine And.intro (by first | exact fun h => h | exact fun _ => rfl | (intro h; rw [h]; rfl) | omega | (intros; (try dsimp only [Ty.T, Ty.size]); (try simp only [castL_self, Int.toNat_natCast, Int.toNat_zero, Int.toNat_one, true_and, List.length_append, List.length_set, List.length_drop, List.length_take, List.length_replicate, List.length_cons, List.length_nil, Nat.zero_add, Nat.mul_one]); omega) | decide | (intros; simp_all; done) | (intros; simp_all; omega)) ?_
        refine hK16 _ _ ?_
        clear hK16
        first | refine AWPD.condP rfl (fun h3 => ?_) (fun h3 => ?_) | refine AWPD.condN rfl (fun h3 => ?_) (fun h3 => ?_) | refine AWPD.condAP rfl (fun h3 => ?_) (fun h3 => ?_) | refine AWPD.condOP rfl (fun h3 => ?_) (fun h3 => ?_) | refine AWPD.condONN rfl (fun h3 => ?_) (fun h3 => ?_) | refine AWPD.condOPN rfl (fun h3 => ?_) (fun h3 => ?_) | refine AWPD.condA rfl (fun h3 => ?_) (fun h3 => ?_) | refine AWPD.condO rfl (fun h3 => ?_) (fun h3 => ?_) | refine AWPD.cond rfl (fun h3 => ?_) (fun h3 => ?_)
        · try dsimp only [Ty.T] at h3
          try simp only [castL_self] at h3
          try simp only [Int.toNat_natCast] at h3
          try simp only [Int.toNat_zero] at h3
          exfalso
          have e := gok.1
          have l := gok.2
          revert h3
          generalize L.getD i [] = y at e l
          intro h3
          simp [e] at h3
          omega
        · try dsimp only [Ty.T] at h3
          try simp only [castL_self] at h3
          try simp only [Int.toNat_natCast] at h3
          try simp only [Int.toNat_zero] at h3
          refine AWPD.skip ?_
          refine hK15 _ _ ?_
          clear hK15
          refine AWPD.seq fun K17 hK17 => ?_
          -- region 13
          refine AWPD.keep [0, 1, 2, 8, 10] rfl ?_
          refine AWPD.region tabOK rfl ?_
          refine hK17 _ _ ?_
          clear hK17
          refine AWPD.block ?_
          -- LOOP 1 live [0, 1, 2, 8, 10, 13] changed [13]
          refine AWPD.loopK (σ := Nat) [0, 1, 2, 8, 10] (fun k base => (13, .i (k : Int)) :: base) (fun _ => []) (fun n k => n + k = (L.getD i []).length) ((L.getD i []).length) 0 [] rfl rfl (by omega) (by decide) trivial (by repeat' first | exact True.intro | exact rfl | exact ⟨rfl, rfl⟩ | refine And.intro ?_ ?_) fun n1 k hI1 => ?_
          have hn1 := hI1
          refine AWPD.seq fun K18 hK18 => ?_
          refine AWPD.seq fun K19 hK19 => ?_
          -- region 14
          refine AWPD.keep [0, 1, 2, 8, 10, 13] rfl ?_
          refine AWPD.region tabOK rfl ?_
          repeat refine And.intro (by first | exact fun h => h | exact fun _ => rfl | (intro h; rw [h]; rfl) | omega | (intros; (try dsimp only [Ty.T, Ty.size]); (try simp only [castL_self, Int.toNat_natCast, Int.toNat_zero, Int.toNat_one, true_and, List.length_append, List.length_set, List.length_drop, List.length_take, List.length_replicate, List.length_cons, List.length_nil, Nat.zero_add, Nat.mul_one]); omega) | decide | (intros; simp_all; done) | (intros; simp_all; omega)) ?_
          refine hK19 _ _ ?_
          clear hK19
          first | refine AWPD.condP rfl (fun h4 => ?_) (fun h4 => ?_) | refine AWPD.condN rfl (fun h4 => ?_) (fun h4 => ?_) | refine AWPD.condAP rfl (fun h4 => ?_) (fun h4 => ?_) | refine AWPD.condOP rfl (fun h4 => ?_) (fun h4 => ?_) | refine AWPD.condONN rfl (fun h4 => ?_) (fun h4 => ?_) | refine AWPD.condOPN rfl (fun h4 => ?_) (fun h4 => ?_) | refine AWPD.condA rfl (fun h4 => ?_) (fun h4 => ?_) | refine AWPD.condO rfl (fun h4 => ?_) (fun h4 => ?_) | refine AWPD.cond rfl (fun h4 => ?_) (fun h4 => ?_)
          · try dsimp only [Ty.T] at h4
            try simp only [castL_self] at h4
            try simp only [Int.toNat_natCast] at h4
            try simp only [Int.toNat_zero] at h4
            have hkl : k < (L.getD i []).length := by omega
            have hdk := gdig.2 k hkl
            have hlk := gless k hkl
            have hl3 := gdig.1
            refine AWPD.skip ?_
            refine hK18 _ _ ?_
            clear hK18
            refine AWPD.seq fun K20 hK20 => ?_
            refine AWPD.block ?_
            refine AWPD.seq fun K21 hK21 => ?_
            refine AWPD.seq fun K22 hK22 => ?_
            -- region 16
            refine AWPD.keep [0, 1, 2, 8, 10, 13] rfl ?_
            refine AWPD.region tabOK rfl ?_
            repeat refine And.intro (by first | exact fun h => h | exact fun _ => rfl | (intro h; rw [h]; rfl) | omega | (intros; (try dsimp only [Ty.T, Ty.size]); (try simp only [castL_self, Int.toNat_natCast, Int.toNat_zero, Int.toNat_one, true_and, List.length_append, List.length_set, List.length_drop, List.length_take, List.length_replicate, List.length_cons, List.length_nil, Nat.zero_add, Nat.mul_one]); omega) | decide | (intros; simp_all; done) | (intros; simp_all; omega)) ?_
            refine hK22 _ _ ?_
            clear hK22
            first | refine AWPD.condP rfl (fun h5 => ?_) (fun h5 => ?_) | refine AWPD.condN rfl (fun h5 => ?_) (fun h5 => ?_) | refine AWPD.condAP rfl (fun h5 => ?_) (fun h5 => ?_) | refine AWPD.condOP rfl (fun h5 => ?_) (fun h5 => ?_) | refine AWPD.condONN rfl (fun h5 => ?_) (fun h5 => ?_) | refine AWPD.condOPN rfl (fun h5 => ?_) (fun h5 => ?_) | refine AWPD.condA rfl (fun h5 => ?_) (fun h5 => ?_) | refine AWPD.condO rfl (fun h5 => ?_) (fun h5 => ?_) | refine AWPD.cond rfl (fun h5 => ?_) (fun h5 => ?_)
            · try dsimp only [Ty.T] at h5
              try simp only [castL_self] at h5
              try simp only [Int.toNat_natCast] at h5
              try simp only [Int.toNat_zero] at h5
              refine AWPD.exit ?_
              refine hK20 _ _ ?_
              clear hK20
              -- region 15
              refine AWPD.keep [0, 1, 2, 8, 10, 13] rfl ?_
              refine AWPD.region tabOK rfl ?_
              repeat refine And.intro (by first | exact fun h => h | exact fun _ => rfl | (intro h; rw [h]; rfl) | omega | (intros; (try dsimp only [Ty.T, Ty.size]); (try simp only [castL_self, Int.toNat_natCast, Int.toNat_zero, Int.toNat_one, true_and, List.length_append, List.length_set, List.length_drop, List.length_take, List.length_replicate, List.length_cons, List.length_nil, Nat.zero_add, Nat.mul_one]); omega) | decide | (intros; simp_all; done) | (intros; simp_all; omega)) ?_
              refine ⟨n1 - 1, k + 1, [], by omega, by omega, ⟨by decide, rfl⟩, trivial, ?_⟩
              repeat' first | exact True.intro | exact rfl | exact ⟨rfl, rfl⟩ | refine And.intro ?_ ?_
            · try dsimp only [Ty.T] at h5
              try simp only [castL_self] at h5
              try simp only [Int.toNat_natCast] at h5
              try simp only [Int.toNat_zero] at h5
              have h5 : (L.getD i []).getD k 0 ≠ 0 := h5
              have hlk := hlk h5
              refine AWPD.skip ?_
              refine hK21 _ _ ?_
              clear hK21
              refine AWPD.seq fun K23 hK23 => ?_
              -- region 17
              refine AWPD.keep [0, 1, 2, 8, 10, 13] rfl ?_
              refine AWPD.region tabOK rfl ?_
              refine hK23 _ _ ?_
              clear hK23
              refine AWPD.seq fun K24 hK24 => ?_
              -- region 18
              refine AWPD.keep [0, 1, 2, 8, 10, 13, 14] rfl ?_
              refine AWPD.region tabOK rfl ?_
              repeat refine And.intro (by first | exact fun h => h | exact fun _ => rfl | (intro h; rw [h]; rfl) | omega | (intros; (try dsimp only [Ty.T, Ty.size]); (try simp only [castL_self, Int.toNat_natCast, Int.toNat_zero, Int.toNat_one, true_and, List.length_append, List.length_set, List.length_drop, List.length_take, List.length_replicate, List.length_cons, List.length_nil, Nat.zero_add, Nat.mul_one]); omega) | decide | (intros; simp_all; done) | (intros; simp_all; omega)) ?_
              refine hK24 _ _ ?_
              clear hK24
              refine AWPD.seq fun K25 hK25 => ?_
              -- region 19
              refine AWPD.keep [0, 1, 2, 8, 10, 13, 14] rfl ?_
              refine AWPD.region tabOK rfl ?_
              repeat refine And.intro (by first | exact fun h => h | exact fun _ => rfl | (intro h; rw [h]; rfl) | omega | (intros; (try dsimp only [Ty.T, Ty.size]); (try simp only [castL_self, Int.toNat_natCast, Int.toNat_zero, Int.toNat_one, true_and, List.length_append, List.length_set, List.length_drop, List.length_take, List.length_replicate, List.length_cons, List.length_nil, Nat.zero_add, Nat.mul_one]); omega) | decide | (intros; simp_all; done) | (intros; simp_all; omega)) ?_
              refine hK25 _ _ ?_
              clear hK25
              refine AWPD.seq fun K26 hK26 => ?_
              -- region 20
              refine AWPD.keep [0, 1, 2, 8, 10, 13, 14] rfl ?_
              refine AWPD.region tabOK rfl ?_
              refine Exists.intro _ (Exists.intro _ (And.intro (StepD.callS (Fewest_fn t ((L.getD i []).set k ((L.getD i []).getD k 0 - 1))) rfl rfl rfl) (And.intro rfl (And.intro trivial ?_))))
              refine hK26 _ _ ?_
              clear hK26
              refine AWPD.seq fun K27 hK27 => ?_
              -- region 21
              refine AWPD.keep [0, 1, 2, 8, 10, 13, 15, 16] rfl ?_
              refine AWPD.region tabOK rfl ?_
              repeat refine And.intro (by first | exact fun h => h | exact fun _ => rfl | (intro h; rw [h]; rfl) | omega | (intros; (try dsimp only [Ty.T, Ty.size]); (try simp only [castL_self, Int.toNat_natCast, Int.toNat_zero, Int.toNat_one, true_and, List.length_append, List.length_set, List.length_drop, List.length_take, List.length_replicate, List.length_cons, List.length_nil, Nat.zero_add, Nat.mul_one]); omega) | decide | (intros; simp_all; done) | (intros; simp_all; omega)) ?_
              refine hK27 _ _ ?_
              clear hK27
              first | refine AWPD.condP rfl (fun h6 => ?_) (fun h6 => ?_) | refine AWPD.condN rfl (fun h6 => ?_) (fun h6 => ?_) | refine AWPD.condAP rfl (fun h6 => ?_) (fun h6 => ?_) | refine AWPD.condOP rfl (fun h6 => ?_) (fun h6 => ?_) | refine AWPD.condONN rfl (fun h6 => ?_) (fun h6 => ?_) | refine AWPD.condOPN rfl (fun h6 => ?_) (fun h6 => ?_) | refine AWPD.condA rfl (fun h6 => ?_) (fun h6 => ?_) | refine AWPD.condO rfl (fun h6 => ?_) (fun h6 => ?_) | refine AWPD.cond rfl (fun h6 => ?_) (fun h6 => ?_)
              · try dsimp only [Ty.T] at h6
                try simp only [castL_self] at h6
                try simp only [Int.toNat_natCast] at h6
                try simp only [Int.toNat_zero] at h6
                exfalso
                have e := hlk.1
                have l := hlk.2
                revert h6
                generalize (L.getD i []).set k ((L.getD i []).getD k 0 - 1) = y at e l
                intro h6
                simp [e] at h6
                omega
              · try dsimp only [Ty.T] at h6
                try simp only [castL_self] at h6
                try simp only [Int.toNat_natCast] at h6
                try simp only [Int.toNat_zero] at h6
                refine AWPD.skip ?_
                refine hK20 _ _ ?_
                clear hK20
                -- region 15
                refine AWPD.keep [0, 1, 2, 8, 10, 13] rfl ?_
                refine AWPD.region tabOK rfl ?_
                repeat refine And.intro (by first | exact fun h => h | exact fun _ => rfl | (intro h; rw [h]; rfl) | omega | (intros; (try dsimp only [Ty.T, Ty.size]); (try simp only [castL_self, Int.toNat_natCast, Int.toNat_zero, Int.toNat_one, true_and, List.length_append, List.length_set, List.length_drop, List.length_take, List.length_replicate, List.length_cons, List.length_nil, Nat.zero_add, Nat.mul_one]); omega) | decide | (intros; simp_all; done) | (intros; simp_all; omega)) ?_
                refine ⟨n1 - 1, k + 1, [], by omega, by omega, ⟨by decide, rfl⟩, trivial, ?_⟩
                repeat' first | exact True.intro | exact rfl | exact ⟨rfl, rfl⟩ | refine And.intro ?_ ?_
          · try dsimp only [Ty.T] at h4
            try simp only [castL_self] at h4
            try simp only [Int.toNat_natCast] at h4
            try simp only [Int.toNat_zero] at h4
            refine AWPD.exit ?_
            refine hK13 _ _ ?_
            clear hK13
            -- region 9
            refine AWPD.keep [0, 1, 2, 8, 10] rfl ?_
            refine AWPD.region tabOK rfl ?_
            repeat refine And.intro (by first | exact fun h => h | exact fun _ => rfl | (intro h; rw [h]; rfl) | omega | (intros; (try dsimp only [Ty.T, Ty.size]); (try simp only [castL_self, Int.toNat_natCast, Int.toNat_zero, Int.toNat_one, true_and, List.length_append, List.length_set, List.length_drop, List.length_take, List.length_replicate, List.length_cons, List.length_nil, Nat.zero_add, Nat.mul_one]); omega) | decide | (intros; simp_all; done) | (intros; simp_all; omega)) ?_
            refine ⟨n0 - 1, i + 1, [], by omega, by omega, ⟨by decide, rfl⟩, trivial, ?_⟩
            repeat' first | exact True.intro | exact rfl | exact ⟨rfl, rfl⟩ | refine And.intro ?_ ?_
      · try dsimp only [Ty.T] at h2
        try simp only [castL_self] at h2
        try simp only [Int.toNat_natCast] at h2
        try simp only [Int.toNat_zero] at h2
        refine AWPD.exit ?_
        refine hK9 _ _ ?_
        clear hK9
        refine AWPD.seq fun K28 hK28 => ?_
        -- region 23
        refine AWPD.keep [0, 1, 2, 8] rfl ?_
        refine AWPD.region tabOK rfl ?_
        refine Exists.intro _ (Exists.intro _ (And.intro (StepD.call (Fewest_fn _ _) rfl rfl rfl) (And.intro rfl (And.intro trivial ?_))))
        refine hK28 _ _ ?_
        clear hK28
        refine AWPD.seq fun K29 hK29 => ?_
        refine AWPD.seq fun K30 hK30 => ?_
        -- region 24
        refine AWPD.keep [1, 2, 8, 17, 18] rfl ?_
        refine AWPD.region tabOK rfl ?_
        repeat refine And.intro (by first | exact fun h => h | exact fun _ => rfl | (intro h; rw [h]; rfl) | omega | (intros; (try dsimp only [Ty.T, Ty.size]); (try simp only [castL_self, Int.toNat_natCast, Int.toNat_zero, Int.toNat_one, true_and, List.length_append, List.length_set, List.length_drop, List.length_take, List.length_replicate, List.length_cons, List.length_nil, Nat.zero_add, Nat.mul_one]); omega) | decide | (intros; simp_all; done) | (intros; simp_all; omega)) ?_
        refine hK30 _ _ ?_
        clear hK30
        first | refine AWPD.condP rfl (fun h7 => ?_) (fun h7 => ?_) | refine AWPD.condN rfl (fun h7 => ?_) (fun h7 => ?_) | refine AWPD.condAP rfl (fun h7 => ?_) (fun h7 => ?_) | refine AWPD.condOP rfl (fun h7 => ?_) (fun h7 => ?_) | refine AWPD.condONN rfl (fun h7 => ?_) (fun h7 => ?_) | refine AWPD.condOPN rfl (fun h7 => ?_) (fun h7 => ?_) | refine AWPD.condA rfl (fun h7 => ?_) (fun h7 => ?_) | refine AWPD.condO rfl (fun h7 => ?_) (fun h7 => ?_) | refine AWPD.cond rfl (fun h7 => ?_) (fun h7 => ?_)
        · try dsimp only [Ty.T] at h7
          try simp only [castL_self] at h7
          try simp only [Int.toNat_natCast] at h7
          try simp only [Int.toNat_zero] at h7
          refine AWPD.seq fun K31 hK31 => ?_
          -- region 25
          refine AWPD.keep [] rfl ?_
          refine AWPD.region tabOK rfl ?_
          refine hK31 _ _ ?_
          clear hK31
          refine AWPD.ret (And.intro (.inl rfl) ?_)
          -- result 1
          refine RetD.one ?_
          exact fitB rfl rfl
        · try dsimp only [Ty.T] at h7
          try simp only [castL_self] at h7
          try simp only [Int.toNat_natCast] at h7
          try simp only [Int.toNat_zero] at h7
          have hE : heightsE t hs = 0 := by
            by_cases hh : heightsE t hs = 0
            · exact hh
            · exfalso; simp [hh] at h7
          have hm : m ≤ (fewV t hs : Int) := by simpa [hE] using h7
          have hcov := gL.cov hs hE hm
          have gh := heights_good hE
          have ghl := gh.len
          have ghc := gh.rows.cols
          refine AWPD.skip ?_
          refine hK29 _ _ ?_
          clear hK29
          refine AWPD.seq fun K32 hK32 => ?_
          refine AWPD.seq fun K33 hK33 => ?_
          -- region 26
          refine AWPD.keep [2, 8] rfl ?_
          refine AWPD.region tabOK rfl ?_
          refine hK33 _ _ ?_
          clear hK33
          refine AWPD.block ?_
          -- LOOP 2 live [2, 8, 19] changed [19]
          refine AWPD.loopK (σ := Nat) [2, 8] (fun i base => (19, .i (i : Int)) :: base) (fun _ => []) (fun n i => n + i = L.length ∧ ∀ j, j < i → ¬okL hs (L.getD j [])) (L.length) 0 [] rfl rfl (⟨by omega, by intro j hj; omega⟩) (by decide) trivial (by repeat' first | exact True.intro | exact rfl | exact ⟨rfl, rfl⟩ | refine And.intro ?_ ?_) fun n2 i hI2 => ?_
          obtain ⟨hn2, hv2⟩ := hI2
          refine AWPD.seq fun K34 hK34 => ?_
          refine AWPD.seq fun K35 hK35 => ?_
          -- region 27
          refine AWPD.keep [2, 8, 19] rfl ?_
          refine AWPD.region tabOK rfl ?_
          refine hK35 _ _ ?_
          clear hK35
          first | refine AWPD.condP rfl (fun h8 => ?_) (fun h8 => ?_) | refine AWPD.condN rfl (fun h8 => ?_) (fun h8 => ?_) | refine AWPD.condAP rfl (fun h8 => ?_) (fun h8 => ?_) | refine AWPD.condOP rfl (fun h8 => ?_) (fun h8 => ?_) | refine AWPD.condONN rfl (fun h8 => ?_) (fun h8 => ?_) | refine AWPD.condOPN rfl (fun h8 => ?_) (fun h8 => ?_) | refine AWPD.condA rfl (fun h8 => ?_) (fun h8 => ?_) | refine AWPD.condO rfl (fun h8 => ?_) (fun h8 => ?_) | refine AWPD.cond rfl (fun h8 => ?_) (fun h8 => ?_)
          · try dsimp only [Ty.T] at h8
            try simp only [castL_self] at h8
            try simp only [Int.toNat_natCast] at h8
            try simp only [Int.toNat_zero] at h8
            refine AWPD.skip ?_
            refine hK34 _ _ ?_
            clear hK34
            refine AWPD.seq fun K36 hK36 => ?_
            refine AWPD.block ?_
            refine AWPD.seq fun K37 hK37 => ?_
            -- region 29
            refine AWPD.keep [2, 8, 19] rfl ?_
            refine AWPD.region tabOK rfl ?_
            repeat refine And.intro (by first | exact fun h => h | exact fun _ => rfl | (intro h; rw [h]; rfl) | omega | (intros; (try dsimp only [Ty.T, Ty.size]); (try simp only [castL_self, Int.toNat_natCast, Int.toNat_zero, Int.toNat_one, true_and, List.length_append, List.length_set, List.length_drop, List.length_take, List.length_replicate, List.length_cons, List.length_nil, Nat.zero_add, Nat.mul_one]); omega) | decide | (intros; simp_all; done) | (intros; simp_all; omega)) ?_
            refine hK37 _ _ ?_
            clear hK37
            refine AWPD.seq fun K38 hK38 => ?_
            refine AWPD.seq fun K39 hK39 => ?_
            -- region 30
            refine AWPD.keep [2, 8, 19, 20] rfl ?_
            refine AWPD.region tabOK rfl ?_
            refine hK39 _ _ ?_
            clear hK39
            refine AWPD.block ?_
            -- LOOP 3 live [2, 8, 19, 20, 21] changed [20, 21]
            refine AWPD.loopK (σ := Nat × Bool) [2, 8, 19] (fun z base => (20, .b z.2) :: (21, .i (z.1 : Int)) :: base) (fun _ => []) (fun n z => n + z.1 = hs.length ∧ (z.2 = true ↔ ((L.getD i []).length = hs.length ∧ ∀ j, j < z.1 → (L.getD i []).getD j 0 ≤ hs.getD j 0))) hs.length (0, decide ((L.getD i []).length = hs.length)) [] rfl rfl (⟨by omega, by simp⟩) (by decide) trivial (by repeat' first | exact (show decide (((L.getD i []).length : Int) = (hs.length : Int)) = decide ((L.getD i []).length = hs.length) from decide_eq_decide.2 (by omega)) | exact True.intro | exact rfl | exact ⟨rfl, rfl⟩ | refine And.intro ?_ ?_) fun n3 z hI3 => ?_
            obtain ⟨k, b⟩ := z
            obtain ⟨hn3, hb3⟩ := hI3
            dsimp only at hn3 hb3 ⊢
            refine AWPD.seq fun K40 hK40 => ?_
            refine AWPD.seq fun K41 hK41 => ?_
            -- region 31
            refine AWPD.keep [2, 8, 19, 20, 21] rfl ?_
            refine AWPD.region tabOK rfl ?_
            repeat refine And.intro (by first | exact fun h => h | exact fun _ => rfl | (intro h; rw [h]; rfl) | omega | (intros; (try dsimp only [Ty.T, Ty.size]); (try simp only [castL_self, Int.toNat_natCast, Int.toNat_zero, Int.toNat_one, true_and, List.length_append, List.length_set, List.length_drop, List.length_take, List.length_replicate, List.length_cons, List.length_nil, Nat.zero_add, Nat.mul_one]); omega) | decide | (intros; simp_all; done) | (intros; simp_all; omega)) ?_
            refine hK41 _ _ ?_
            clear hK41
            first | refine AWPD.condP rfl (fun h9 => ?_) (fun h9 => ?_) | refine AWPD.condN rfl (fun h9 => ?_) (fun h9 => ?_) | refine AWPD.condAP rfl (fun h9 => ?_) (fun h9 => ?_) | refine AWPD.condOP rfl (fun h9 => ?_) (fun h9 => ?_) | refine AWPD.condONN rfl (fun h9 => ?_) (fun h9 => ?_) | refine AWPD.condOPN rfl (fun h9 => ?_) (fun h9 => ?_) | refine AWPD.condA rfl (fun h9 => ?_) (fun h9 => ?_) | refine AWPD.condO rfl (fun h9 => ?_) (fun h9 => ?_) | refine AWPD.cond rfl (fun h9 => ?_) (fun h9 => ?_)
            · try dsimp only [Ty.T] at h9
              try simp only [castL_self] at h9
              try simp only [Int.toNat_natCast] at h9
              try simp only [Int.toNat_zero] at h9
              obtain ⟨h9a, h9b⟩ := h9
              subst h9b
              have hb3 := hb3.1 rfl
              have hlk : k < (L.getD i []).length := by omega
              refine AWPD.skip ?_
              refine hK40 _ _ ?_
              clear hK40
              refine AWPD.seq fun K42 hK42 => ?_
              refine AWPD.block ?_
              -- region 33
              refine AWPD.keep [2, 8, 19, 21] rfl ?_
              refine AWPD.draw tabOK [] rfl (by kernel_rfl) ?_
              repeat refine And.intro (by first | exact fun h => h | exact fun _ => rfl | (intro h; rw [h]; rfl) | omega | (intros; (try dsimp only [Ty.T, Ty.size]); (try simp only [castL_self, Int.toNat_natCast, Int.toNat_zero, Int.toNat_one, true_and, List.length_append, List.length_set, List.length_drop, List.length_take, List.length_replicate, List.length_cons, List.length_nil, Nat.zero_add, Nat.mul_one]); omega) | decide | (intros; simp_all; done) | (intros; simp_all; omega)) ?_
              refine hK42 _ _ ?_
              clear hK42
              -- region 32
              refine AWPD.keep [2, 8, 19, 20, 21] rfl ?_
              refine AWPD.region tabOK rfl ?_
              repeat refine And.intro (by first | exact fun h => h | exact fun _ => rfl | (intro h; rw [h]; rfl) | omega | (intros; (try dsimp only [Ty.T, Ty.size]); (try simp only [castL_self, Int.toNat_natCast, Int.toNat_zero, Int.toNat_one, true_and, List.length_append, List.length_set, List.length_drop, List.length_take, List.length_replicate, List.length_cons, List.length_nil, Nat.zero_add, Nat.mul_one]); omega) | decide | (intros; simp_all; done) | (intros; simp_all; omega)) ?_
              refine ⟨n3 - 1, (k + 1, decide ((L.getD i []).getD k 0 ≤ hs.getD k 0)), [], by omega, ⟨by omega, by
                  rw [decide_eq_true_eq]
                  constructor
                  · intro hle
                    refine ⟨hb3.1, fun j hj => ?_⟩
                    rcases Nat.lt_or_ge j k with h | h
                    · exact hb3.2 j h
                    · rw [show j = k by omega]; exact hle
                  · intro hh
                    exact hh.2 k (by omega)⟩, ⟨by decide, rfl⟩, trivial, ?_⟩
              repeat' first | exact True.intro | exact rfl | exact ⟨rfl, rfl⟩ | refine And.intro ?_ ?_
            · try dsimp only [Ty.T] at h9
              try simp only [castL_self] at h9
              try simp only [Int.toNat_natCast] at h9
              try simp only [Int.toNat_zero] at h9
              have hfin : b = true ↔ okL hs (L.getD i []) := by
                constructor
                · intro hb
                  have hge : ¬(k < hs.length) := fun hlt => h9 ⟨by omega, hb⟩
                  have := hb3.1 hb
                  exact ⟨this.1, fun j hj => this.2 j (by omega)⟩
                · intro hok
                  exact hb3.2 ⟨hok.1, fun j hj => hok.2 j (by omega)⟩
              refine AWPD.exit ?_
              refine hK38 _ _ ?_
              clear hK38
              refine AWPD.seq fun K43 hK43 => ?_
              -- region 34
              refine AWPD.keep [2, 8, 19, 20] rfl ?_
              refine AWPD.region tabOK rfl ?_
              refine hK43 _ _ ?_
              clear hK43
              first | refine AWPD.cond rfl (fun h10 => ?_) (fun h10 => ?_)
              · try dsimp only [Ty.T] at h10
                try simp only [castL_self] at h10
                try simp only [Int.toNat_natCast] at h10
                try simp only [Int.toNat_zero] at h10
                refine AWPD.seq fun K44 hK44 => ?_
                -- region 35
                refine AWPD.keep [] rfl ?_
                refine AWPD.region tabOK rfl ?_
                refine hK44 _ _ ?_
                clear hK44
                refine AWPD.ret (And.intro (.inl rfl) ?_)
                -- result 2
                refine RetD.one ?_
                exact fitB rfl rfl
              · try dsimp only [Ty.T] at h10
                try simp only [castL_self] at h10
                try simp only [Int.toNat_natCast] at h10
                try simp only [Int.toNat_zero] at h10
                have h10 : ¬okL hs (L.getD i []) := fun hok => by rw [hfin.2 hok] at h10; cases h10
                refine AWPD.skip ?_
                refine hK36 _ _ ?_
                clear hK36
                -- region 28
                refine AWPD.keep [2, 8, 19] rfl ?_
                refine AWPD.region tabOK rfl ?_
                repeat refine And.intro (by first | exact fun h => h | exact fun _ => rfl | (intro h; rw [h]; rfl) | omega | (intros; (try dsimp only [Ty.T, Ty.size]); (try simp only [castL_self, Int.toNat_natCast, Int.toNat_zero, Int.toNat_one, true_and, List.length_append, List.length_set, List.length_drop, List.length_take, List.length_replicate, List.length_cons, List.length_nil, Nat.zero_add, Nat.mul_one]); omega) | decide | (intros; simp_all; done) | (intros; simp_all; omega)) ?_
                refine ⟨n2 - 1, i + 1, [], by omega, ⟨by omega, fun j hj => by
                    rcases Nat.lt_or_ge j i with h | h
                    · exact hv2 j h
                    · rw [show j = i by omega]; exact h10⟩, ⟨by decide, rfl⟩, trivial, ?_⟩
                repeat' first | exact True.intro | exact rfl | exact ⟨rfl, rfl⟩ | refine And.intro ?_ ?_
          · try dsimp only [Ty.T] at h8
            try simp only [castL_self] at h8
            try simp only [Int.toNat_natCast] at h8
            try simp only [Int.toNat_zero] at h8
            have hie : i = L.length := by omega
            refine AWPD.exit ?_
            refine hK32 _ _ ?_
            clear hK32
            refine AWPD.seq fun K45 hK45 => ?_
            -- region 36
            refine AWPD.keep [] rfl ?_
            refine AWPD.region tabOK rfl ?_
            refine hK45 _ _ ?_
            clear hK45
            refine AWPD.ret (And.intro (.inl rfl) ?_)
            -- result 3
            refine RetD.one ?_
            exfalso
            obtain ⟨l, hl, hok⟩ := hcov
            obtain ⟨j, hj, e⟩ := List.getElem_of_mem hl
            refine hv2 j (by omega) ?_
            rw [List.getD_eq_getElem?_getD, List.getElem?_eq_getElem hj, e]
            exact hok
end Go.Proofs.Ytmeacgkhabnjlaa
