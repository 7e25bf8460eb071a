/-
  WALKS of what the document takes together: tables of who is alike, their classes, meet and join, finer, classes in order.
-/
import Derived.Test.YtkdihpajgmiolaaDoorQwTb0
import Derived.Test.YtkdihpajgmiolaaDoorQwR4
import Derived.Test.YtkdihpajgmiolaaDoorQwMy
namespace Go.Proofs.YtkdihpajgmiolaaDoor
open Go Go.Qw
set_option maxRecDepth 10000
set_option linter.unusedSimpArgs false
set_option linter.unusedVariables false
set_option linter.unusedSectionVars false
set_option maxHeartbeats 2000000


theorem kN_yes {g : Nat → Nat → Bool} {out : List Int} {i j : Nat} (h : kN g out i j < 0 ∧ g i j = true) : out.getD j 0 = kN g out i (j + 1) := by rw [kN, if_pos h]
theorem kN_no {g : Nat → Nat → Bool} {out : List Int} {i j : Nat} (h : ¬(kN g out i j < 0 ∧ g i j = true)) : kN g out i j = kN g out i (j + 1) := by rw [kN, if_neg h]
theorem named_yes {g : Nat → Nat → Bool} {i : Nat} (h : kN g (namedR g i) i i < 0) : nextP (namedR g i) i + 1 = nextP (namedR g (i + 1)) (i + 1) := by rw [namedR_next, if_pos h]
theorem named_no {g : Nat → Nat → Bool} {i : Nat} (h : ¬kN g (namedR g i) i i < 0) : nextP (namedR g i) i = nextP (namedR g (i + 1)) (i + 1) := by rw [namedR_next, if_neg h]

theorem named_fn (nn : Nat) (g : Nat → Nat → Bool) (hn : nn ≤ 1000000) : LiftsD Tryd.prog 56 [.sl (.sl .bool) (tabL nn g nn)] (.sl .int (namedR g nn)) := by
  have htl := tabL_len nn g nn
  refine LiftsD.of_body 44 [.tmp 2] Tryd.func56 rfl Tryd.ntmps56 (by kernel_rfl) rfl rfl fun w0 X0 => ?_
  refine AWPD.seq fun K1 hK1 => ?_
  -- region 0
  refine AWPD.keep [0] rfl ?_
  refine AWPD.region tabOK rfl ?_
  refine hK1 _ _ ?_
  clear hK1
  refine AWPD.seq fun K2 hK2 => ?_
  -- region 1
  refine AWPD.keep [0] rfl ?_
  refine AWPD.region tabOK rfl ?_
  refine hK2 _ _ ?_
  clear hK2
  refine AWPD.seq fun K3 hK3 => ?_
  -- region 2
  refine AWPD.keep [0, 3] rfl ?_
  refine AWPD.region tabOK rfl ?_
  refine hK3 _ _ ?_
  clear hK3
  refine AWPD.seq fun K4 hK4 => ?_
  refine AWPD.seq fun K5 hK5 => ?_
  -- region 3
  refine AWPD.keep [0, 3, 4] rfl ?_
  refine AWPD.region tabOK rfl ?_
  refine hK5 _ _ ?_
  clear hK5
  refine AWPD.block ?_
  -- LOOP 0 live [0, 3, 4, 5] changed [3, 4, 5]
  refine AWPD.nilRow 3 3 .int rfl (by decide) ?_
  refine AWPD.loopK (σ := Nat) [0] (fun i base => (3, .ob 0) :: (4, .i (nextP (namedR g i) i)) :: (5, .i (i : Int)) :: base) (fun i => [.row 3 .int (namedR g i)]) (fun n i => n + i = nn) (nn) 0 [0] rfl rfl (by omega) (by decide) ⟨⟨rfl, rfl, rfl⟩, trivial⟩ (by repeat' first | exact True.intro | exact rfl | exact ⟨rfl, rfl⟩ | refine And.intro ?_ ?_) fun n0 i hI0 => ?_
  have hn0 := hI0
  have hnx := nextP_in (namedR g i) i
  have hgl := namedR_len g i
  refine AWPD.seq fun K6 hK6 => ?_
  refine AWPD.seq fun K7 hK7 => ?_
  -- region 4
  refine AWPD.keep [0, 3, 4, 5] rfl ?_
  refine AWPD.region tabOK rfl ?_
  refine hK7 _ _ ?_
  clear hK7
  first | refine AWPD.condP rfl (fun h0 => ?_) (fun h0 => ?_) | refine AWPD.condN rfl (fun h0 => ?_) (fun h0 => ?_) | refine AWPD.condAP rfl (fun h0 => ?_) (fun h0 => ?_) | refine AWPD.condOP rfl (fun h0 => ?_) (fun h0 => ?_) | refine AWPD.condONN rfl (fun h0 => ?_) (fun h0 => ?_) | refine AWPD.condOPN rfl (fun h0 => ?_) (fun h0 => ?_) | refine AWPD.condA rfl (fun h0 => ?_) (fun h0 => ?_) | refine AWPD.condO rfl (fun h0 => ?_) (fun h0 => ?_) | refine AWPD.cond rfl (fun h0 => ?_) (fun h0 => ?_)
  · try dsimp only [Ty.T] at h0
    try simp only [castL_self] at h0
    try simp only [Int.toNat_natCast] at h0
    try simp only [Int.toNat_zero] at h0
    rw [htl] at h0
    have hil : i < nn := by omega
    have hrl := tabL_row (n := nn) (g := g) hil
    refine AWPD.skip ?_
    refine hK6 _ _ ?_
    clear hK6
    refine AWPD.seq fun K8 hK8 => ?_
    refine AWPD.block ?_
    refine AWPD.seq fun K9 hK9 => ?_
    -- region 6
    refine AWPD.keep [0, 3, 4, 5] rfl ?_
    refine AWPD.region tabOK rfl ?_
    refine hK9 _ _ ?_
    clear hK9
    refine AWPD.seq fun K10 hK10 => ?_
    refine AWPD.seq fun K11 hK11 => ?_
    -- region 7
    refine AWPD.keep [0, 3, 4, 5, 6] rfl ?_
    refine AWPD.region tabOK rfl ?_
    refine hK11 _ _ ?_
    clear hK11
    refine AWPD.block ?_
    -- LOOP 1 live [0, 3, 4, 5, 6, 7] changed [6, 7]
    refine AWPD.loopK (σ := Nat) [0, 3, 4, 5] (fun j base => (6, .i (kN g (namedR g i) i j)) :: (7, .i (j : Int)) :: base) (fun j => [.row 3 .int (namedR g i)]) (fun n j => n + j = i) (i) 0 [0] rfl rfl (by omega) (by decide) ⟨⟨rfl, rfl, rfl⟩, trivial⟩ (by repeat' first | exact True.intro | exact rfl | exact ⟨rfl, rfl⟩ | refine And.intro ?_ ?_) fun n1 j hI1 => ?_
    have hn1 := hI1
    refine AWPD.seq fun K12 hK12 => ?_
    refine AWPD.seq fun K13 hK13 => ?_
    -- region 8
    refine AWPD.keep [0, 3, 4, 5, 6, 7] rfl ?_
    refine AWPD.region tabOK rfl ?_
    refine hK13 _ _ ?_
    clear hK13
    first | refine AWPD.condP rfl (fun h1 => ?_) (fun h1 => ?_) | refine AWPD.condN rfl (fun h1 => ?_) (fun h1 => ?_) | refine AWPD.condAP rfl (fun h1 => ?_) (fun h1 => ?_) | refine AWPD.condOP rfl (fun h1 => ?_) (fun h1 => ?_) | refine AWPD.condONN rfl (fun h1 => ?_) (fun h1 => ?_) | refine AWPD.condOPN rfl (fun h1 => ?_) (fun h1 => ?_) | refine AWPD.condA rfl (fun h1 => ?_) (fun h1 => ?_) | refine AWPD.condO rfl (fun h1 => ?_) (fun h1 => ?_) | refine AWPD.cond rfl (fun h1 => ?_) (fun h1 => ?_)
    · try dsimp only [Ty.T] at h1
      try simp only [castL_self] at h1
      try simp only [Int.toNat_natCast] at h1
      try simp only [Int.toNat_zero] at h1
      refine AWPD.skip ?_
      refine hK12 _ _ ?_
      clear hK12
      refine AWPD.seq fun K14 hK14 => ?_
      refine AWPD.block ?_
      refine AWPD.seq fun K15 hK15 => ?_
      -- region 10
      refine AWPD.keep [0, 3, 4, 5, 6, 7] rfl ?_
      refine AWPD.region tabOK rfl ?_
      repeat refine And.intro (by first | exact fun h => h | exact fun _ => rfl | (intro h; rw [h]; rfl) | omega | (intros; (try dsimp only [Ty.T, Ty.size]); (try simp only [castL_self, Int.toNat_natCast, Int.toNat_zero, Int.toNat_one, true_and, List.length_append, List.length_set, List.length_drop, List.length_take, List.length_replicate, List.length_cons, List.length_nil, Nat.zero_add, Nat.mul_one]); omega) | decide | (intros; simp_all; done) | (intros; simp_all; omega)) ?_
      refine hK15 _ _ ?_
      clear hK15
      first | refine AWPD.cond rfl (fun h2 => ?_) (fun h2 => ?_)
      · try dsimp only [Ty.T] at h2
        try simp only [castL_self] at h2
        try simp only [Int.toNat_natCast] at h2
        try simp only [Int.toNat_zero] at h2
        have hk2 : kN g (namedR g i) i j < 0 ∧ g i j = true := by
          rw [tabL_at hil (by omega)] at h2
          simpa using h2
        -- region 11
        refine AWPD.keep [0, 3, 4, 5, 7] rfl ?_
        refine AWPD.region tabOK rfl ?_
        repeat refine And.intro (by first | exact fun h => h | exact fun _ => rfl | (intro h; rw [h]; rfl) | omega | (intros; (try dsimp only [Ty.T, Ty.size]); (try simp only [castL_self, Int.toNat_natCast, Int.toNat_zero, Int.toNat_one, true_and, List.length_append, List.length_set, List.length_drop, List.length_take, List.length_replicate, List.length_cons, List.length_nil, Nat.zero_add, Nat.mul_one]); omega) | decide | (intros; simp_all; done) | (intros; simp_all; omega)) ?_
        refine hK14 _ _ ?_
        clear hK14
        -- region 9
        refine AWPD.keep [0, 3, 4, 5, 6, 7] rfl ?_
        refine AWPD.region tabOK rfl ?_
        repeat refine And.intro (by first | exact fun h => h | exact fun _ => rfl | (intro h; rw [h]; rfl) | omega | (intros; (try dsimp only [Ty.T, Ty.size]); (try simp only [castL_self, Int.toNat_natCast, Int.toNat_zero, Int.toNat_one, true_and, List.length_append, List.length_set, List.length_drop, List.length_take, List.length_replicate, List.length_cons, List.length_nil, Nat.zero_add, Nat.mul_one]); omega) | decide | (intros; simp_all; done) | (intros; simp_all; omega)) ?_
        refine ⟨n1 - 1, j + 1, [0], by omega, by omega, ⟨by decide, rfl⟩, ⟨⟨rfl, rfl, rfl⟩, trivial⟩, ?_⟩
        repeat' first | exact kN_yes hk2 | exact kN_no hk2 | exact True.intro | exact rfl | exact ⟨rfl, rfl⟩ | refine And.intro ?_ ?_
      · try dsimp only [Ty.T] at h2
        try simp only [castL_self] at h2
        try simp only [Int.toNat_natCast] at h2
        try simp only [Int.toNat_zero] at h2
        have hk2 : ¬(kN g (namedR g i) i j < 0 ∧ g i j = true) := by
          rw [tabL_at hil (by omega)] at h2
          simpa using h2
        refine AWPD.skip ?_
        refine hK14 _ _ ?_
        clear hK14
        -- region 9
        refine AWPD.keep [0, 3, 4, 5, 6, 7] rfl ?_
        refine AWPD.region tabOK rfl ?_
        repeat refine And.intro (by first | exact fun h => h | exact fun _ => rfl | (intro h; rw [h]; rfl) | omega | (intros; (try dsimp only [Ty.T, Ty.size]); (try simp only [castL_self, Int.toNat_natCast, Int.toNat_zero, Int.toNat_one, true_and, List.length_append, List.length_set, List.length_drop, List.length_take, List.length_replicate, List.length_cons, List.length_nil, Nat.zero_add, Nat.mul_one]); omega) | decide | (intros; simp_all; done) | (intros; simp_all; omega)) ?_
        refine ⟨n1 - 1, j + 1, [0], by omega, by omega, ⟨by decide, rfl⟩, ⟨⟨rfl, rfl, rfl⟩, trivial⟩, ?_⟩
        repeat' first | exact kN_yes hk2 | exact kN_no hk2 | exact True.intro | exact rfl | exact ⟨rfl, rfl⟩ | refine And.intro ?_ ?_
    · try dsimp only [Ty.T] at h1
      try simp only [castL_self] at h1
      try simp only [Int.toNat_natCast] at h1
      try simp only [Int.toNat_zero] at h1
      have hje : i = j := by omega
      subst hje
      refine AWPD.exit ?_
      refine hK10 _ _ ?_
      clear hK10
      refine AWPD.seq fun K16 hK16 => ?_
      refine AWPD.seq fun K17 hK17 => ?_
      -- region 12
      refine AWPD.keep [0, 3, 4, 5, 6] rfl ?_
      refine AWPD.region tabOK rfl ?_
      refine hK17 _ _ ?_
      clear hK17
      first | refine AWPD.condP rfl (fun h3 => ?_) (fun h3 => ?_) | refine AWPD.condN rfl (fun h3 => ?_) (fun h3 => ?_) | refine AWPD.condAP rfl (fun h3 => ?_) (fun h3 => ?_) | refine AWPD.condOP rfl (fun h3 => ?_) (fun h3 => ?_) | refine AWPD.condONN rfl (fun h3 => ?_) (fun h3 => ?_) | refine AWPD.condOPN rfl (fun h3 => ?_) (fun h3 => ?_) | refine AWPD.condA rfl (fun h3 => ?_) (fun h3 => ?_) | refine AWPD.condO rfl (fun h3 => ?_) (fun h3 => ?_) | refine AWPD.cond rfl (fun h3 => ?_) (fun h3 => ?_)
      · try dsimp only [Ty.T] at h3
        try simp only [castL_self] at h3
        try simp only [Int.toNat_natCast] at h3
        try simp only [Int.toNat_zero] at h3
        refine AWPD.seq fun K18 hK18 => ?_
        -- region 13
        refine AWPD.keep [0, 3, 4, 5] rfl ?_
        refine AWPD.region tabOK rfl ?_
        refine hK18 _ _ ?_
        clear hK18
        -- region 14
        refine AWPD.keep [0, 3, 4, 5, 6] rfl ?_
        refine AWPD.region tabOK rfl ?_
        repeat refine And.intro (by first | exact fun h => h | exact fun _ => rfl | (intro h; rw [h]; rfl) | omega | (intros; (try dsimp only [Ty.T, Ty.size]); (try simp only [castL_self, Int.toNat_natCast, Int.toNat_zero, Int.toNat_one, true_and, List.length_append, List.length_set, List.length_drop, List.length_take, List.length_replicate, List.length_cons, List.length_nil, Nat.zero_add, Nat.mul_one]); omega) | decide | (intros; simp_all; done) | (intros; simp_all; omega)) ?_
        refine hK16 _ _ ?_
        clear hK16
        -- region 15
        refine AWPD.keep [0, 3, 4, 5, 6] rfl ?_
        refine AWPD.region tabOK rfl ?_
        repeat refine And.intro (by first | exact fun h => h | exact fun _ => rfl | (intro h; rw [h]; rfl) | omega | (intros; (try dsimp only [Ty.T, Ty.size]); (try simp only [castL_self, Int.toNat_natCast, Int.toNat_zero, Int.toNat_one, true_and, List.length_append, List.length_set, List.length_drop, List.length_take, List.length_replicate, List.length_cons, List.length_nil, Nat.zero_add, Nat.mul_one]); omega) | decide | (intros; simp_all; done) | (intros; simp_all; omega)) ?_
        refine hK8 _ _ ?_
        clear hK8
        -- region 5
        refine AWPD.keep [0, 3, 4, 5] rfl ?_
        refine AWPD.region tabOK rfl ?_
        repeat refine And.intro (by first | exact fun h => h | exact fun _ => rfl | (intro h; rw [h]; rfl) | omega | (intros; (try dsimp only [Ty.T, Ty.size]); (try simp only [castL_self, Int.toNat_natCast, Int.toNat_zero, Int.toNat_one, true_and, List.length_append, List.length_set, List.length_drop, List.length_take, List.length_replicate, List.length_cons, List.length_nil, Nat.zero_add, Nat.mul_one]); omega) | decide | (intros; simp_all; done) | (intros; simp_all; omega)) ?_
        refine ⟨n0 - 1, i + 1, [1], by omega, by omega, ⟨by decide, rfl⟩, ⟨⟨rfl, rfl, (by show namedR g i ++ [nextP (namedR g i) i] = namedR g (i + 1); rw [namedR, if_pos h3])⟩, trivial⟩, ?_⟩
        repeat' first | exact named_yes h3 | exact named_no h3 | exact True.intro | exact rfl | exact ⟨rfl, rfl⟩ | refine And.intro ?_ ?_
      · try dsimp only [Ty.T] at h3
        try simp only [castL_self] at h3
        try simp only [Int.toNat_natCast] at h3
        try simp only [Int.toNat_zero] at h3
        refine AWPD.skip ?_
        refine hK16 _ _ ?_
        clear hK16
        -- region 15
        refine AWPD.keep [0, 3, 4, 5, 6] rfl ?_
        refine AWPD.region tabOK rfl ?_
        repeat refine And.intro (by first | exact fun h => h | exact fun _ => rfl | (intro h; rw [h]; rfl) | omega | (intros; (try dsimp only [Ty.T, Ty.size]); (try simp only [castL_self, Int.toNat_natCast, Int.toNat_zero, Int.toNat_one, true_and, List.length_append, List.length_set, List.length_drop, List.length_take, List.length_replicate, List.length_cons, List.length_nil, Nat.zero_add, Nat.mul_one]); omega) | decide | (intros; simp_all; done) | (intros; simp_all; omega)) ?_
        refine hK8 _ _ ?_
        clear hK8
        -- region 5
        refine AWPD.keep [0, 3, 4, 5] rfl ?_
        refine AWPD.region tabOK rfl ?_
        repeat refine And.intro (by first | exact fun h => h | exact fun _ => rfl | (intro h; rw [h]; rfl) | omega | (intros; (try dsimp only [Ty.T, Ty.size]); (try simp only [castL_self, Int.toNat_natCast, Int.toNat_zero, Int.toNat_one, true_and, List.length_append, List.length_set, List.length_drop, List.length_take, List.length_replicate, List.length_cons, List.length_nil, Nat.zero_add, Nat.mul_one]); omega) | decide | (intros; simp_all; done) | (intros; simp_all; omega)) ?_
        refine ⟨n0 - 1, i + 1, [1], by omega, by omega, ⟨by decide, rfl⟩, ⟨⟨rfl, rfl, (by show namedR g i ++ [kN g (namedR g i) i i] = namedR g (i + 1); rw [namedR, if_neg h3])⟩, trivial⟩, ?_⟩
        repeat' first | exact named_yes h3 | exact named_no h3 | exact True.intro | exact rfl | exact ⟨rfl, rfl⟩ | refine And.intro ?_ ?_
  · try dsimp only [Ty.T] at h0
    try simp only [castL_self] at h0
    try simp only [Int.toNat_natCast] at h0
    try simp only [Int.toNat_zero] at h0
    rw [htl] at h0
    have hie : nn = i := by omega
    subst hie
    refine AWPD.exit ?_
    refine hK4 _ _ ?_
    clear hK4
    refine AWPD.seq fun K19 hK19 => ?_
    -- region 16
    refine AWPD.keep [3] rfl ?_
    refine AWPD.region tabOK rfl ?_
    refine hK19 _ _ ?_
    clear hK19
    refine AWPD.ret (And.intro (.inl rfl) ?_)
    -- result 0
    refine RetD.one ?_
    exact fitR rfl rfl rfl
theorem rof_fn (l : List Int) (hl : l.length ≤ 12) : LiftsD Tryd.prog 24 [.sl .int l] (.sl .int (ofL l)) := by
  refine LiftsD.of_body 37 [.tmp 2] Tryd.func24 rfl Tryd.ntmps24 (by kernel_rfl) rfl rfl fun w0 X0 => ?_
  refine AWPD.seq fun K1 hK1 => ?_
  -- region 0
  refine AWPD.keep [0] rfl ?_
  refine AWPD.region tabOK rfl ?_
  refine hK1 _ _ ?_
  clear hK1
  refine AWPD.seq fun K2 hK2 => ?_
  -- region 1
  refine AWPD.keep [0] rfl ?_
  refine AWPD.region tabOK rfl ?_
  refine hK2 _ _ ?_
  clear hK2
  refine AWPD.seq fun K3 hK3 => ?_
  refine AWPD.seq fun K4 hK4 => ?_
  -- region 2
  refine AWPD.keep [0, 3] rfl ?_
  refine AWPD.region tabOK rfl ?_
  refine hK4 _ _ ?_
  clear hK4
  refine AWPD.block ?_
  -- LOOP 0 live [0, 3, 4] changed [3, 4]
  refine AWPD.nilRow 3 71 (.sl .bool) rfl (by decide) ?_
  refine AWPD.loopK (σ := Nat) [0] (fun i base => (3, .ob 0) :: (4, .i (i : Int)) :: base) (fun i => [.row 71 (.sl .bool) (tabL l.length (ofG l) i)]) (fun n i => n + i = l.length) (l.length) 0 [0] rfl rfl (by omega) (by decide) ⟨⟨rfl, rfl, rfl⟩, trivial⟩ (by repeat' first | exact True.intro | exact rfl | exact ⟨rfl, rfl⟩ | refine And.intro ?_ ?_) fun n0 i hI0 => ?_
  have hn0 := hI0
  refine AWPD.seq fun K5 hK5 => ?_
  refine AWPD.seq fun K6 hK6 => ?_
  -- region 3
  refine AWPD.keep [0, 3, 4] rfl ?_
  refine AWPD.region tabOK rfl ?_
  refine hK6 _ _ ?_
  clear hK6
  first | refine AWPD.condP rfl (fun h0 => ?_) (fun h0 => ?_) | refine AWPD.condN rfl (fun h0 => ?_) (fun h0 => ?_) | refine AWPD.condAP rfl (fun h0 => ?_) (fun h0 => ?_) | refine AWPD.condOP rfl (fun h0 => ?_) (fun h0 => ?_) | refine AWPD.condONN rfl (fun h0 => ?_) (fun h0 => ?_) | refine AWPD.condOPN rfl (fun h0 => ?_) (fun h0 => ?_) | refine AWPD.condA rfl (fun h0 => ?_) (fun h0 => ?_) | refine AWPD.condO rfl (fun h0 => ?_) (fun h0 => ?_) | refine AWPD.cond rfl (fun h0 => ?_) (fun h0 => ?_)
  · try dsimp only [Ty.T] at h0
    try simp only [castL_self] at h0
    try simp only [Int.toNat_natCast] at h0
    try simp only [Int.toNat_zero] at h0
    refine AWPD.skip ?_
    refine hK5 _ _ ?_
    clear hK5
    refine AWPD.seq fun K7 hK7 => ?_
    refine AWPD.block ?_
    refine AWPD.seq fun K8 hK8 => ?_
    -- region 5
    refine AWPD.keep [0, 3, 4] rfl ?_
    refine AWPD.region tabOK rfl ?_
    refine hK8 _ _ ?_
    clear hK8
    refine AWPD.seq fun K9 hK9 => ?_
    refine AWPD.seq fun K10 hK10 => ?_
    -- region 6
    refine AWPD.keep [0, 3, 4, 5] rfl ?_
    refine AWPD.region tabOK rfl ?_
    refine hK10 _ _ ?_
    clear hK10
    refine AWPD.block ?_
    -- LOOP 1 live [0, 3, 4, 5, 6] changed [5, 6]
    refine AWPD.nilRow 5 4 .bool rfl (by decide) ?_
    refine AWPD.loopK (σ := Nat) [0, 4] (fun j base => (3, .ob 0) :: (5, .ob 1) :: (6, .i (j : Int)) :: base) (fun j => [.row 71 (.sl .bool) (tabL l.length (ofG l) i), .row 4 .bool (rowT (ofG l) i j)]) (fun n j => n + j = l.length) (l.length) 0 [0, 1] rfl rfl (by omega) (by decide) ⟨⟨rfl, rfl, rfl⟩, ⟨rfl, rfl, rfl⟩, trivial⟩ (by repeat' first | exact True.intro | exact rfl | exact ⟨rfl, rfl⟩ | refine And.intro ?_ ?_) fun n1 j hI1 => ?_
    have hn1 := hI1
    have hrl := rowT_len (ofG l) i j
    refine AWPD.seq fun K11 hK11 => ?_
    refine AWPD.seq fun K12 hK12 => ?_
    -- region 7
    refine AWPD.keep [0, 3, 4, 5, 6] rfl ?_
    refine AWPD.region tabOK rfl ?_
    refine hK12 _ _ ?_
    clear hK12
    first | refine AWPD.condP rfl (fun h1 => ?_) (fun h1 => ?_) | refine AWPD.condN rfl (fun h1 => ?_) (fun h1 => ?_) | refine AWPD.condAP rfl (fun h1 => ?_) (fun h1 => ?_) | refine AWPD.condOP rfl (fun h1 => ?_) (fun h1 => ?_) | refine AWPD.condONN rfl (fun h1 => ?_) (fun h1 => ?_) | refine AWPD.condOPN rfl (fun h1 => ?_) (fun h1 => ?_) | refine AWPD.condA rfl (fun h1 => ?_) (fun h1 => ?_) | refine AWPD.condO rfl (fun h1 => ?_) (fun h1 => ?_) | refine AWPD.cond rfl (fun h1 => ?_) (fun h1 => ?_)
    · try dsimp only [Ty.T] at h1
      try simp only [castL_self] at h1
      try simp only [Int.toNat_natCast] at h1
      try simp only [Int.toNat_zero] at h1
      refine AWPD.skip ?_
      refine hK11 _ _ ?_
      clear hK11
      refine AWPD.seq fun K13 hK13 => ?_
      refine AWPD.block ?_
      -- region 9
      refine AWPD.keep [0, 3, 4, 5, 6] rfl ?_
      refine AWPD.draw tabOK [11] rfl (by kernel_rfl) ?_
      repeat refine And.intro (by first | exact fun h => h | exact fun _ => rfl | (intro h; rw [h]; rfl) | omega | (intros; (try dsimp only [Ty.T, Ty.size]); (try simp only [castL_self, Int.toNat_natCast, Int.toNat_zero, Int.toNat_one, true_and, List.length_append, List.length_set, List.length_drop, List.length_take, List.length_replicate, List.length_cons, List.length_nil, Nat.zero_add, Nat.mul_one]); omega) | decide | (intros; simp_all; done) | (intros; simp_all; omega)) ?_
      refine hK13 _ _ ?_
      clear hK13
      -- region 8
      refine AWPD.keep [0, 3, 4, 5, 6] rfl ?_
      refine AWPD.region tabOK rfl ?_
      repeat refine And.intro (by first | exact fun h => h | exact fun _ => rfl | (intro h; rw [h]; rfl) | omega | (intros; (try dsimp only [Ty.T, Ty.size]); (try simp only [castL_self, Int.toNat_natCast, Int.toNat_zero, Int.toNat_one, true_and, List.length_append, List.length_set, List.length_drop, List.length_take, List.length_replicate, List.length_cons, List.length_nil, Nat.zero_add, Nat.mul_one]); omega) | decide | (intros; simp_all; done) | (intros; simp_all; omega)) ?_
      refine ⟨n1 - 1, j + 1, [0, 2], by omega, by omega, ⟨by decide, rfl⟩, ⟨⟨rfl, rfl, rfl⟩, ⟨rfl, rfl, rowT_step (ofG l) i j⟩, trivial⟩, ?_⟩
      repeat' first | exact True.intro | exact rfl | exact ⟨rfl, rfl⟩ | refine And.intro ?_ ?_
    · try dsimp only [Ty.T] at h1
      try simp only [castL_self] at h1
      try simp only [Int.toNat_natCast] at h1
      try simp only [Int.toNat_zero] at h1
      have hje : j = l.length := by omega
      subst hje
      refine AWPD.exit ?_
      refine hK9 _ _ ?_
      clear hK9
      -- region 10
      refine AWPD.freeze 5 rfl rfl rfl ?_
      have htl := tabL_len l.length (ofG l) i
      refine AWPD.keep [0, 3, 4, 5] rfl ?_
      refine AWPD.region tabOK rfl ?_
      repeat refine And.intro (by first | exact fun h => h | exact fun _ => rfl | (intro h; rw [h]; rfl) | omega | (intros; (try dsimp only [Ty.T, Ty.size]); (try simp only [castL_self, Int.toNat_natCast, Int.toNat_zero, Int.toNat_one, true_and, List.length_append, List.length_set, List.length_drop, List.length_take, List.length_replicate, List.length_cons, List.length_nil, Nat.zero_add, Nat.mul_one]); omega) | decide | (intros; simp_all; done) | (intros; simp_all; omega)) ?_
      refine hK7 _ _ ?_
      clear hK7
      -- region 4
      refine AWPD.keep [0, 3, 4] rfl ?_
      refine AWPD.region tabOK rfl ?_
      repeat refine And.intro (by first | exact fun h => h | exact fun _ => rfl | (intro h; rw [h]; rfl) | omega | (intros; (try dsimp only [Ty.T, Ty.size]); (try simp only [castL_self, Int.toNat_natCast, Int.toNat_zero, Int.toNat_one, true_and, List.length_append, List.length_set, List.length_drop, List.length_take, List.length_replicate, List.length_cons, List.length_nil, Nat.zero_add, Nat.mul_one]); omega) | decide | (intros; simp_all; done) | (intros; simp_all; omega)) ?_
      refine ⟨n0 - 1, i + 1, [2], by omega, by omega, ⟨by decide, rfl⟩, ⟨⟨rfl, rfl, tabL_step _ _ _⟩, trivial⟩, ?_⟩
      repeat' first | exact True.intro | exact rfl | exact ⟨rfl, rfl⟩ | refine And.intro ?_ ?_
  · try dsimp only [Ty.T] at h0
    try simp only [castL_self] at h0
    try simp only [Int.toNat_natCast] at h0
    try simp only [Int.toNat_zero] at h0
    have hie : i = l.length := by omega
    subst hie
    refine AWPD.exit ?_
    refine hK3 _ _ ?_
    clear hK3
    refine AWPD.seq fun K14 hK14 => ?_
    -- region 11
    refine AWPD.freeze 3 rfl rfl rfl ?_
    refine AWPD.keep [3] rfl ?_
    refine AWPD.region tabOK rfl ?_
    refine Exists.intro _ (Exists.intro _ (And.intro (StepD.call (named_fn l.length (ofG l) (by omega)) rfl rfl rfl) (And.intro rfl (And.intro trivial ?_))))
    refine hK14 _ _ ?_
    clear hK14
    refine AWPD.ret (And.intro (.inl rfl) ?_)
    -- result 0
    refine RetD.one ?_
    exact fitS rfl (ofG_num hl)

def osW (n : Nat) (g : Nat → Nat → Bool) (i : Nat) : List OD := (tabL n g i).map fun r => OD.row 4 .bool r
theorem osW_len (n : Nat) (g : Nat → Nat → Bool) (i : Nat) : (osW n g i).length = i := by simp [osW, tabL_len]
theorem osW_get {n : Nat} {g : Nat → Nat → Bool} {i m : Nat} (h : i < m) : (osW n g m)[i]? = some (.row 4 .bool (rowT g i n)) := by
  unfold osW
  rw [List.getElem?_map]
  have : (tabL n g m)[i]? = some (rowT g i n) := by simp [tabL, rowT, h]
  rw [this]; rfl
theorem osW_dead (n : Nat) (g : Nat → Nat → Bool) (i : Nat) : (osW n g i ++ [OD.dead])[i]? = some OD.dead := by
  rw [List.getElem?_append_right (by rw [osW_len]; omega), osW_len, Nat.sub_self]; rfl
theorem osW_next {n : Nat} {g : Nat → Nat → Bool} {i : Nat} : (osW n g i ++ [OD.dead]).set i (.row 4 .bool (rowT g i n)) = osW n g (i + 1) := by
  have h := set_last (osW n g i) (.dead : OD) (.row 4 .bool (rowT g i n))
  rw [osW_len] at h
  rw [h]
  unfold osW
  rw [← tabL_step, List.map_append]; rfl
theorem rowT_snoc {g : Nat → Nat → Bool} {i j : Nat} {v : Bool} (h : v = g i j) : rowT g i j ++ [v] = rowT g i (j + 1) := by rw [h, rowT_step]
theorem rowT_set {g h : Nat → Nat → Bool} {i j n : Nat} {v : Bool} (hj : j < n) (hv : v = h i j) (ho : ∀ b, b < n → b ≠ j → h i b = g i b) : (rowT g i n).set j v = rowT h i n := by
  apply List.ext_getElem?
  intro b
  rw [List.getElem?_set]
  by_cases hb : b < n
  · have e : (rowT h i n)[b]? = some (h i b) := by simp [rowT, hb]
    have e2 : (rowT g i n)[b]? = some (g i b) := by simp [rowT, hb]
    rw [e, e2]
    by_cases hbj : j = b
    · subst hbj; rw [if_pos rfl, if_pos (by rw [rowT_len]; exact hj), hv]
    · rw [if_neg hbj, ho b hb fun e => hbj e.symm]
  · have e : (rowT h i n)[b]? = none := List.getElem?_eq_none (by rw [rowT_len]; omega)
    have e2 : (rowT g i n)[b]? = none := List.getElem?_eq_none (by rw [rowT_len]; omega)
    rw [e, e2, if_neg (by omega)]
theorem osW_set {g h : Nat → Nat → Bool} {i n m : Nat} {l : List Bool} (hi : i < m) (hl : l = rowT h i n) (ho : ∀ a, a < m → a ≠ i → rowT g a n = rowT h a n) : (osW n g m).set i (.row 4 .bool l) = osW n h m := by
  apply List.ext_getElem?
  intro a
  rw [List.getElem?_set]
  by_cases ha : a < m
  · rw [osW_get (g := h) ha, osW_get (g := g) ha]
    by_cases hai : i = a
    · subst hai; rw [if_pos rfl, if_pos (by rw [osW_len]; exact hi), hl]
    · rw [if_neg hai, ho a ha fun e => hai e.symm]
  · have e : ∀ g, (osW n g m)[a]? = none := fun g => List.getElem?_eq_none (by rw [osW_len]; omega)
    rw [e, e, if_neg (by omega)]
theorem osW_congr {n m : Nat} {g h : Nat → Nat → Bool} (e : ∀ a b, a < m → b < n → g a b = h a b) : osW n g m = osW n h m := by
  unfold osW tabL
  rw [List.map_map, List.map_map]
  exact List.map_congr_left fun a ha => by
    have ha := List.mem_range.1 ha
    exact congrArg (fun l : List Bool => OD.row 4 .bool l) (List.map_congr_left fun b hb => e a b ha (List.mem_range.1 hb))
theorem wM_set {n : Nat} {g : Nat → Nat → Bool} {k i j : Nat} {v : Bool} (hi : i < n) (hj : j < n) (hv : v = wB g (k + 1) i j) : (osW n (wM g k i j) n).set i (.row 4 .bool ((rowT (wM g k i j) i n).set j v)) = osW n (wM g k i (j + 1)) n := by
  refine osW_set hi (rowT_set hj (by rw [hv]; unfold wM; rw [if_pos (by omega)]) fun b _ hb => ?_) fun a _ ha => ?_
  · unfold wM
    by_cases h : b < j
    · rw [if_pos (by omega), if_pos (by omega)]
    · rw [if_neg (by omega), if_neg (by omega)]
  · unfold rowT
    refine List.map_congr_left fun b _ => ?_
    unfold wM
    by_cases h : a < i
    · rw [if_pos (by omega), if_pos (by omega)]
    · rw [if_neg (by omega), if_neg (by omega)]
theorem wM_store {n : Nat} {g : Nat → Nat → Bool} {k i j : Nat} (hd : List Value) (hi : i < n) (hj : j < n) (hk : k < n) :
    rowsC hd ((osW n (wM g k i j) n).set i (.row 4 .bool ((rowT (wM g k i j) i n).set j (bif (rowT (wM g k i j) i n).getD j false then true else bif (rowT (wM g k i j) i n).getD k false then (rowT (wM g k i j) k n).getD j false else false)))) = rowsC hd (osW n (wM g k i (j + 1)) n) := by
  rw [rowT_get hj, rowT_get hk, rowT_get hj, wM_set hi hj (by rw [← wM_new]; cases wM g k i j i j <;> cases wM g k i j i k <;> rfl)]
theorem wM_start (n : Nat) (g : Nat → Nat → Bool) (k : Nat) : osW n (wB g k) n = osW n (wM g k 0 0) n := osW_congr fun a b _ _ => by unfold wM; rw [if_neg (by omega)]
theorem wM_row (n : Nat) (g : Nat → Nat → Bool) (k i : Nat) : osW n (wM g k i n) n = osW n (wM g k (i + 1) 0) n := osW_congr fun a b _ hb => by
  unfold wM
  by_cases h : a ≤ i
  · rw [if_pos (by omega), if_pos (by omega)]
  · rw [if_neg (by omega), if_neg (by omega)]
theorem wM_end (n : Nat) (g : Nat → Nat → Bool) (k : Nat) : osW n (wM g k n 0) n = osW n (wB g (k + 1)) n := osW_congr fun a b ha _ => by unfold wM; rw [if_pos (by omega)]

theorem rmeet_fn (p q : List Int) (bb : Bool) (hl : p.length ≤ 12) (hq : q.length = p.length) : LiftsD Tryd.prog 27 [.sl .int p, .sl .int q, .b bb] (.sl .int (meR p q bb)) := by
  have htl := tabL_len p.length (meG p q bb)
  refine LiftsD.of_body 115 [.tmp 6] Tryd.func27 rfl Tryd.ntmps27 (by kernel_rfl) rfl rfl fun w0 X0 => ?_
  refine AWPD.seq fun K1 hK1 => ?_
  -- region 0
  refine AWPD.keep [0, 1, 2] rfl ?_
  refine AWPD.region tabOK rfl ?_
  refine hK1 _ _ ?_
  clear hK1
  refine AWPD.seq fun K2 hK2 => ?_
  -- region 1
  refine AWPD.keep [0, 1, 2] rfl ?_
  refine AWPD.region tabOK rfl ?_
  refine hK2 _ _ ?_
  clear hK2
  refine AWPD.seq fun K3 hK3 => ?_
  -- region 2
  refine AWPD.keep [0, 1, 2, 7] rfl ?_
  refine AWPD.region tabOK rfl ?_
  refine hK3 _ _ ?_
  clear hK3
  refine AWPD.seq fun K4 hK4 => ?_
  refine AWPD.seq fun K5 hK5 => ?_
  -- region 3
  refine AWPD.keep [0, 1, 2, 7, 8] rfl ?_
  refine AWPD.region tabOK rfl ?_
  refine hK5 _ _ ?_
  clear hK5
  refine AWPD.block ?_
  -- LOOP 0 live [0, 1, 2, 7, 8, 9] changed [8, 9]
  refine AWPD.nilRow 8 71 .val rfl (by decide) ?_
  refine AWPD.rows0 [] ?_
  refine AWPD.loopK (σ := Nat × List Value) [0, 1, 2, 7] (fun z base => (8, .ob 0) :: (9, .i (z.1 : Int)) :: base) (fun z => [.row 71 .val z.2, rowsO z.2 (osW p.length (meG p q bb) z.1)]) (fun n z => n + z.1 = p.length ∧ z.2.length = z.1) p.length (0, []) [0, 1] rfl rfl (⟨by omega, rfl⟩) (by decide) ⟨⟨rfl, rfl, rfl⟩, rfl, trivial⟩ (by repeat' first | exact True.intro | exact rfl | exact ⟨rfl, rfl⟩ | refine And.intro ?_ ?_) fun n0 z hI0 => ?_
  obtain ⟨i, hd⟩ := z
  obtain ⟨hn0, hdl⟩ := hI0
  dsimp only at hn0 hdl ⊢
  refine AWPD.seq fun K6 hK6 => ?_
  refine AWPD.seq fun K7 hK7 => ?_
  -- region 4
  refine AWPD.keep [0, 1, 2, 7, 8, 9] rfl ?_
  refine AWPD.region tabOK rfl ?_
  refine hK7 _ _ ?_
  clear hK7
  first | refine AWPD.condP rfl (fun h0 => ?_) (fun h0 => ?_) | refine AWPD.condN rfl (fun h0 => ?_) (fun h0 => ?_) | refine AWPD.condAP rfl (fun h0 => ?_) (fun h0 => ?_) | refine AWPD.condOP rfl (fun h0 => ?_) (fun h0 => ?_) | refine AWPD.condONN rfl (fun h0 => ?_) (fun h0 => ?_) | refine AWPD.condOPN rfl (fun h0 => ?_) (fun h0 => ?_) | refine AWPD.condA rfl (fun h0 => ?_) (fun h0 => ?_) | refine AWPD.condO rfl (fun h0 => ?_) (fun h0 => ?_) | refine AWPD.cond rfl (fun h0 => ?_) (fun h0 => ?_)
  · try dsimp only [Ty.T] at h0
    try simp only [castL_self] at h0
    try simp only [Int.toNat_natCast] at h0
    try simp only [Int.toNat_zero] at h0
    refine AWPD.skip ?_
    refine hK6 _ _ ?_
    clear hK6
    refine AWPD.seq fun K8 hK8 => ?_
    refine AWPD.block ?_
    refine AWPD.seq fun K9 hK9 => ?_
    -- region 6
    refine AWPD.keep [0, 1, 2, 7, 8, 9] rfl ?_
    refine AWPD.region tabOK rfl ?_
    refine hK9 _ _ ?_
    clear hK9
    refine AWPD.seq fun K10 hK10 => ?_
    refine AWPD.seq fun K11 hK11 => ?_
    -- region 7
    refine AWPD.keep [0, 1, 2, 7, 8, 9, 10] rfl ?_
    refine AWPD.region tabOK rfl ?_
    refine hK11 _ _ ?_
    clear hK11
    refine AWPD.block ?_
    -- LOOP 1 live [0, 1, 2, 7, 8, 9, 10, 11] changed [10, 11]
    refine AWPD.nilRow 10 4 .bool rfl (by decide) ?_
    refine AWPD.loopK (σ := Nat) [0, 1, 2, 7, 9] (fun j base => (8, .ob 0) :: (10, .ob 2) :: (11, .i (j : Int)) :: base) (fun j => [.row 71 .val hd, rowsO hd (osW p.length (meG p q bb) i), .row 4 .bool (rowT (meG p q bb) i j)]) (fun n j => n + j = p.length) (p.length) 0 [0, 1, 2] rfl rfl (by omega) (by decide) ⟨⟨rfl, rfl, rfl⟩, rfl, ⟨rfl, rfl, rfl⟩, trivial⟩ (by repeat' first | exact True.intro | exact rfl | exact ⟨rfl, rfl⟩ | refine And.intro ?_ ?_) fun n1 j hI1 => ?_
    have hn1 := hI1
    have hrl := rowT_len (meG p q bb) i j
    refine AWPD.seq fun K12 hK12 => ?_
    refine AWPD.seq fun K13 hK13 => ?_
    -- region 8
    refine AWPD.keep [0, 1, 2, 7, 8, 9, 10, 11] rfl ?_
    refine AWPD.region tabOK rfl ?_
    refine hK13 _ _ ?_
    clear hK13
    first | refine AWPD.condP rfl (fun h1 => ?_) (fun h1 => ?_) | refine AWPD.condN rfl (fun h1 => ?_) (fun h1 => ?_) | refine AWPD.condAP rfl (fun h1 => ?_) (fun h1 => ?_) | refine AWPD.condOP rfl (fun h1 => ?_) (fun h1 => ?_) | refine AWPD.condONN rfl (fun h1 => ?_) (fun h1 => ?_) | refine AWPD.condOPN rfl (fun h1 => ?_) (fun h1 => ?_) | refine AWPD.condA rfl (fun h1 => ?_) (fun h1 => ?_) | refine AWPD.condO rfl (fun h1 => ?_) (fun h1 => ?_) | refine AWPD.cond rfl (fun h1 => ?_) (fun h1 => ?_)
    · try dsimp only [Ty.T] at h1
      try simp only [castL_self] at h1
      try simp only [Int.toNat_natCast] at h1
      try simp only [Int.toNat_zero] at h1
      refine AWPD.skip ?_
      refine hK12 _ _ ?_
      clear hK12
      refine AWPD.seq fun K14 hK14 => ?_
      refine AWPD.block ?_
      refine AWPD.seq fun K15 hK15 => ?_
      -- region 10
      refine AWPD.keep [0, 1, 2, 7, 8, 9, 10, 11] rfl ?_
      refine AWPD.draw tabOK [] rfl (by kernel_rfl) ?_
      repeat refine And.intro (by first | exact fun h => h | exact fun _ => rfl | (intro h; rw [h]; rfl) | omega | (intros; (try dsimp only [Ty.T, Ty.size]); (try simp only [castL_self, Int.toNat_natCast, Int.toNat_zero, Int.toNat_one, true_and, List.length_append, List.length_set, List.length_drop, List.length_take, List.length_replicate, List.length_cons, List.length_nil, Nat.zero_add, Nat.mul_one]); omega) | decide | (intros; simp_all; done) | (intros; simp_all; omega)) ?_
      refine hK15 _ _ ?_
      clear hK15
      refine AWPD.seq fun K16 hK16 => ?_
      -- region 11
      refine AWPD.keep [0, 1, 2, 7, 8, 9, 10, 11, 12] rfl ?_
      refine AWPD.draw tabOK [] rfl (by kernel_rfl) ?_
      repeat refine And.intro (by first | exact fun h => h | exact fun _ => rfl | (intro h; rw [h]; rfl) | omega | (intros; (try dsimp only [Ty.T, Ty.size]); (try simp only [castL_self, Int.toNat_natCast, Int.toNat_zero, Int.toNat_one, true_and, List.length_append, List.length_set, List.length_drop, List.length_take, List.length_replicate, List.length_cons, List.length_nil, Nat.zero_add, Nat.mul_one]); omega) | decide | (intros; simp_all; done) | (intros; simp_all; omega)) ?_
      refine hK16 _ _ ?_
      clear hK16
      -- region 12
      refine AWPD.keep [0, 1, 2, 7, 8, 9, 10, 11, 12, 13] rfl ?_
      refine AWPD.region tabOK rfl ?_
      repeat refine And.intro (by first | exact fun h => h | exact fun _ => rfl | (intro h; rw [h]; rfl) | omega | (intros; (try dsimp only [Ty.T, Ty.size]); (try simp only [castL_self, Int.toNat_natCast, Int.toNat_zero, Int.toNat_one, true_and, List.length_append, List.length_set, List.length_drop, List.length_take, List.length_replicate, List.length_cons, List.length_nil, Nat.zero_add, Nat.mul_one]); omega) | decide | (intros; simp_all; done) | (intros; simp_all; omega)) ?_
      refine hK14 _ _ ?_
      clear hK14
      -- region 9
      refine AWPD.keep [0, 1, 2, 7, 8, 9, 10, 11] rfl ?_
      refine AWPD.region tabOK rfl ?_
      repeat refine And.intro (by first | exact fun h => h | exact fun _ => rfl | (intro h; rw [h]; rfl) | omega | (intros; (try dsimp only [Ty.T, Ty.size]); (try simp only [castL_self, Int.toNat_natCast, Int.toNat_zero, Int.toNat_one, true_and, List.length_append, List.length_set, List.length_drop, List.length_take, List.length_replicate, List.length_cons, List.length_nil, Nat.zero_add, Nat.mul_one]); omega) | decide | (intros; simp_all; done) | (intros; simp_all; omega)) ?_
      refine ⟨n1 - 1, j + 1, [0, 1, 3], by omega, by omega, ⟨by decide, rfl⟩, ⟨⟨rfl, rfl, rfl⟩, rfl, ⟨rfl, rfl, rowT_snoc (by simp only [meG, Int.toNat_natCast]; cases bb <;> cases decide (p.getD i 0 = p.getD j 0) <;> cases decide (q.getD i 0 = q.getD j 0) <;> rfl)⟩, trivial⟩, ?_⟩
      repeat' first | exact True.intro | exact rfl | exact ⟨rfl, rfl⟩ | refine And.intro ?_ ?_
    · try dsimp only [Ty.T] at h1
      try simp only [castL_self] at h1
      try simp only [Int.toNat_natCast] at h1
      try simp only [Int.toNat_zero] at h1
      have hje : j = p.length := by omega
      subst hje
      refine AWPD.exit ?_
      refine hK10 _ _ ?_
      clear hK10
      -- region 13
      refine AWPD.keep [0, 1, 2, 7, 8, 9, 10] rfl ?_
      refine AWPD.region tabOK rfl ?_
      refine Exists.intro _ (Exists.intro _ (And.intro (StepD.buildH tabOK rfl rfl rfl rfl) (And.intro rfl (And.intro trivial ?_))))
      refine Exists.intro _ (Exists.intro _ (And.intro (StepD.appendH tabOK rfl rfl rfl rfl rfl (by omega)) (And.intro rfl (And.intro trivial ?_))))
      refine hK8 _ _ ?_
      clear hK8
      -- region 5
      refine AWPD.holeM 1 (.slice none 0 0) rfl ?_
      refine AWPD.absorb (xs := hd ++ [(.slice none 0 0 : Value)]) (os := osW p.length (meG p q bb) i ++ [OD.dead]) 3 1 2 hd.length (by decide) (by decide) (by decide) rfl rfl rfl (by rw [hdl]; exact osW_dead _ _ _) (by simp) (flat_bool _) fun x => ?_
      refine AWPD.keep [0, 1, 2, 7, 8, 9] rfl ?_
      refine AWPD.region tabOK rfl ?_
      repeat refine And.intro (by first | exact fun h => h | exact fun _ => rfl | (intro h; rw [h]; rfl) | omega | (intros; (try dsimp only [Ty.T, Ty.size]); (try simp only [castL_self, Int.toNat_natCast, Int.toNat_zero, Int.toNat_one, true_and, List.length_append, List.length_set, List.length_drop, List.length_take, List.length_replicate, List.length_cons, List.length_nil, Nat.zero_add, Nat.mul_one]); omega) | decide | (intros; simp_all; done) | (intros; simp_all; omega)) ?_
      refine ⟨n0 - 1, (i + 1, (hd ++ [(.slice none 0 0 : Value)]).set hd.length x), [3, 1], by omega, ⟨by omega, by simp [hdl]⟩, ⟨by decide, rfl⟩, ⟨⟨rfl, rfl, rfl⟩, (by show rowsC _ _ = rowsC _ _; rw [hdl, osW_next]), trivial⟩, ?_⟩
      repeat' first | exact True.intro | exact rfl | exact ⟨rfl, rfl⟩ | refine And.intro ?_ ?_
  · try dsimp only [Ty.T] at h0
    try simp only [castL_self] at h0
    try simp only [Int.toNat_natCast] at h0
    try simp only [Int.toNat_zero] at h0
    have hie : i = p.length := by omega
    subst hie
    refine AWPD.exit ?_
    refine hK4 _ _ ?_
    clear hK4
    refine AWPD.seq fun K17 hK17 => ?_
    refine AWPD.seq fun K18 hK18 => ?_
    -- region 14
    refine AWPD.keep [7, 8] rfl ?_
    refine AWPD.region tabOK rfl ?_
    refine hK18 _ _ ?_
    clear hK18
    refine AWPD.block ?_
    -- LOOP 2 live [7, 8, 14] changed [14]
    refine AWPD.freeze 8 rfl rfl rfl ?_
    refine AWPD.loopK (σ := Nat) [7] (fun k base => (8, .sl .val hd) :: (14, .i (k : Int)) :: base) (fun k => [rowsO hd (osW p.length (wB (meG p q bb) k) p.length)]) (fun n k => n + k = p.length) (p.length) 0 [1] rfl rfl (by omega) (by decide) ⟨rfl, trivial⟩ (by repeat' first | exact True.intro | exact rfl | exact ⟨rfl, rfl⟩ | refine And.intro ?_ ?_) fun n2 k hI2 => ?_
    have hn2 := hI2
    refine AWPD.seq fun K19 hK19 => ?_
    refine AWPD.seq fun K20 hK20 => ?_
    -- region 15
    refine AWPD.keep [7, 8, 14] rfl ?_
    refine AWPD.region tabOK rfl ?_
    refine hK20 _ _ ?_
    clear hK20
    first | refine AWPD.condP rfl (fun h2 => ?_) (fun h2 => ?_) | refine AWPD.condN rfl (fun h2 => ?_) (fun h2 => ?_) | refine AWPD.condAP rfl (fun h2 => ?_) (fun h2 => ?_) | refine AWPD.condOP rfl (fun h2 => ?_) (fun h2 => ?_) | refine AWPD.condONN rfl (fun h2 => ?_) (fun h2 => ?_) | refine AWPD.condOPN rfl (fun h2 => ?_) (fun h2 => ?_) | refine AWPD.condA rfl (fun h2 => ?_) (fun h2 => ?_) | refine AWPD.condO rfl (fun h2 => ?_) (fun h2 => ?_) | refine AWPD.cond rfl (fun h2 => ?_) (fun h2 => ?_)
    · try dsimp only [Ty.T] at h2
      try simp only [castL_self] at h2
      try simp only [Int.toNat_natCast] at h2
      try simp only [Int.toNat_zero] at h2
      refine AWPD.skip ?_
      refine hK19 _ _ ?_
      clear hK19
      refine AWPD.seq fun K21 hK21 => ?_
      refine AWPD.block ?_
      refine AWPD.seq fun K22 hK22 => ?_
      -- region 17
      refine AWPD.keep [7, 8, 14] rfl ?_
      refine AWPD.region tabOK rfl ?_
      refine hK22 _ _ ?_
      clear hK22
      refine AWPD.block ?_
      -- LOOP 3 live [7, 8, 14, 15] changed [15]
      refine AWPD.loopK (σ := Nat) [7, 14] (fun i base => (8, .sl .val hd) :: (15, .i (i : Int)) :: base) (fun i => [rowsO hd (osW p.length (wM (meG p q bb) k i 0) p.length)]) (fun n i => n + i = p.length) (p.length) 0 [0] rfl rfl (by omega) (by decide) ⟨(by show rowsC _ _ = rowsC _ _; rw [wM_start]), trivial⟩ (by repeat' first | exact True.intro | exact rfl | exact ⟨rfl, rfl⟩ | refine And.intro ?_ ?_) fun n3 i hI3 => ?_
      have hn3 := hI3
      refine AWPD.seq fun K23 hK23 => ?_
      refine AWPD.seq fun K24 hK24 => ?_
      -- region 18
      refine AWPD.keep [7, 8, 14, 15] rfl ?_
      refine AWPD.region tabOK rfl ?_
      refine hK24 _ _ ?_
      clear hK24
      first | refine AWPD.condP rfl (fun h3 => ?_) (fun h3 => ?_) | refine AWPD.condN rfl (fun h3 => ?_) (fun h3 => ?_) | refine AWPD.condAP rfl (fun h3 => ?_) (fun h3 => ?_) | refine AWPD.condOP rfl (fun h3 => ?_) (fun h3 => ?_) | refine AWPD.condONN rfl (fun h3 => ?_) (fun h3 => ?_) | refine AWPD.condOPN rfl (fun h3 => ?_) (fun h3 => ?_) | refine AWPD.condA rfl (fun h3 => ?_) (fun h3 => ?_) | refine AWPD.condO rfl (fun h3 => ?_) (fun h3 => ?_) | refine AWPD.cond rfl (fun h3 => ?_) (fun h3 => ?_)
      · try dsimp only [Ty.T] at h3
        try simp only [castL_self] at h3
        try simp only [Int.toNat_natCast] at h3
        try simp only [Int.toNat_zero] at h3
        refine AWPD.skip ?_
        refine hK23 _ _ ?_
        clear hK23
        refine AWPD.seq fun K25 hK25 => ?_
        refine AWPD.block ?_
        refine AWPD.seq fun K26 hK26 => ?_
        -- region 20
        refine AWPD.keep [7, 8, 14, 15] rfl ?_
        refine AWPD.region tabOK rfl ?_
        refine hK26 _ _ ?_
        clear hK26
        refine AWPD.block ?_
        -- LOOP 4 live [7, 8, 14, 15, 16] changed [16]
        refine AWPD.loopK (σ := Nat) [7, 14, 15] (fun j base => (8, .sl .val hd) :: (16, .i (j : Int)) :: base) (fun j => [rowsO hd (osW p.length (wM (meG p q bb) k i j) p.length)]) (fun n j => n + j = p.length) (p.length) 0 [0] rfl rfl (by omega) (by decide) ⟨rfl, trivial⟩ (by repeat' first | exact True.intro | exact rfl | exact ⟨rfl, rfl⟩ | refine And.intro ?_ ?_) fun n4 j hI4 => ?_
        have hn4 := hI4
        refine AWPD.seq fun K27 hK27 => ?_
        refine AWPD.seq fun K28 hK28 => ?_
        -- region 21
        refine AWPD.keep [7, 8, 14, 15, 16] rfl ?_
        refine AWPD.region tabOK rfl ?_
        refine hK28 _ _ ?_
        clear hK28
        first | refine AWPD.condP rfl (fun h4 => ?_) (fun h4 => ?_) | refine AWPD.condN rfl (fun h4 => ?_) (fun h4 => ?_) | refine AWPD.condAP rfl (fun h4 => ?_) (fun h4 => ?_) | refine AWPD.condOP rfl (fun h4 => ?_) (fun h4 => ?_) | refine AWPD.condONN rfl (fun h4 => ?_) (fun h4 => ?_) | refine AWPD.condOPN rfl (fun h4 => ?_) (fun h4 => ?_) | refine AWPD.condA rfl (fun h4 => ?_) (fun h4 => ?_) | refine AWPD.condO rfl (fun h4 => ?_) (fun h4 => ?_) | refine AWPD.cond rfl (fun h4 => ?_) (fun h4 => ?_)
        · try dsimp only [Ty.T] at h4
          try simp only [castL_self] at h4
          try simp only [Int.toNat_natCast] at h4
          try simp only [Int.toNat_zero] at h4
          refine AWPD.skip ?_
          refine hK27 _ _ ?_
          clear hK27
          refine AWPD.seq fun K29 hK29 => ?_
          refine AWPD.block ?_
          -- region 23
          refine AWPD.keep [7, 8, 14, 15, 16] rfl ?_
          refine AWPD.draw tabOK [31] rfl (by kernel_rfl) ?_
          repeat refine And.intro (by first | exact fun h => h | exact fun _ => rfl | (intro h; rw [h]; rfl) | omega | (intros; (try dsimp only [Ty.T, Ty.size]); (try simp only [castL_self, Int.toNat_natCast, Int.toNat_zero, Int.toNat_one, true_and, List.length_append, List.length_set, List.length_drop, List.length_take, List.length_replicate, List.length_cons, List.length_nil, Nat.zero_add, Nat.mul_one]); omega) | decide | (intros; simp_all; done) | (intros; simp_all; omega)) ?_
          refine Exists.intro _ (Exists.intro _ (And.intro (StepD.addrM 0 i (osW_get (by omega)) (flat_bool _) tabOK rfl rfl (by simp only [rowT_len]; omega) rfl rfl rfl rfl rfl rfl) (And.intro rfl (And.intro rfl ?_))))
          refine Exists.intro _ (Exists.intro _ (And.intro (StepD.loadM (k := j) (c := 0) 0 i (osW_get (by omega)) (flat_bool _) tabOK rfl rfl rfl (by simp only [rowT_len]; omega) rfl rfl rfl rfl) (And.intro rfl (And.intro rfl ?_))))
          repeat refine And.intro (by first | exact fun h => h | exact fun _ => rfl | (intro h; rw [h]; rfl) | omega | (intros; (try dsimp only [Ty.T, Ty.size]); (try simp only [castL_self, Int.toNat_natCast, Int.toNat_zero, Int.toNat_one, true_and, List.length_append, List.length_set, List.length_drop, List.length_take, List.length_replicate, List.length_cons, List.length_nil, Nat.zero_add, Nat.mul_one]); omega) | decide | (intros; simp_all; done) | (intros; simp_all; omega)) ?_
          refine Exists.intro _ (Exists.intro _ (And.intro (fun hg => StepD.addrM 0 i (osW_get (by omega)) (flat_bool _) tabOK rfl rfl (by simp only [rowT_len]; omega) rfl rfl rfl rfl rfl rfl) (And.intro (fun hf => rfl) (And.intro rfl (And.intro rfl ?_)))))
          repeat refine And.intro (by first | exact fun h => h | exact fun _ => rfl | (intro h; rw [h]; rfl) | omega | (intros; (try dsimp only [Ty.T, Ty.size]); (try simp only [castL_self, Int.toNat_natCast, Int.toNat_zero, Int.toNat_one, true_and, List.length_append, List.length_set, List.length_drop, List.length_take, List.length_replicate, List.length_cons, List.length_nil, Nat.zero_add, Nat.mul_one]); omega) | decide | (intros; simp_all; done) | (intros; simp_all; omega)) ?_
          refine Exists.intro _ (Exists.intro _ (And.intro (fun hg => StepD.loadM (k := k) (c := 0) 0 i (osW_get (by omega)) (flat_bool _) tabOK rfl rfl rfl (by simp only [rowT_len]; omega) rfl rfl rfl rfl) (And.intro (fun hf => rfl) (And.intro rfl (And.intro rfl ?_)))))
          repeat refine And.intro (by first | exact fun h => h | exact fun _ => rfl | (intro h; rw [h]; rfl) | omega | (intros; (try dsimp only [Ty.T, Ty.size]); (try simp only [castL_self, Int.toNat_natCast, Int.toNat_zero, Int.toNat_one, true_and, List.length_append, List.length_set, List.length_drop, List.length_take, List.length_replicate, List.length_cons, List.length_nil, Nat.zero_add, Nat.mul_one]); omega) | decide | (intros; simp_all; done) | (intros; simp_all; omega)) ?_
          refine Exists.intro _ (Exists.intro _ (And.intro (fun hg => StepD.addrM 0 k (osW_get (by omega)) (flat_bool _) tabOK rfl rfl (by simp only [rowT_len]; omega) rfl rfl rfl rfl rfl rfl) (And.intro (fun hf => rfl) (And.intro rfl (And.intro rfl ?_)))))
          repeat refine And.intro (by first | exact fun h => h | exact fun _ => rfl | (intro h; rw [h]; rfl) | omega | (intros; (try dsimp only [Ty.T, Ty.size]); (try simp only [castL_self, Int.toNat_natCast, Int.toNat_zero, Int.toNat_one, true_and, List.length_append, List.length_set, List.length_drop, List.length_take, List.length_replicate, List.length_cons, List.length_nil, Nat.zero_add, Nat.mul_one]); omega) | decide | (intros; simp_all; done) | (intros; simp_all; omega)) ?_
          refine Exists.intro _ (Exists.intro _ (And.intro (fun hg => StepD.loadM (k := j) (c := 0) 0 k (osW_get (by omega)) (flat_bool _) tabOK rfl rfl rfl (by simp only [rowT_len]; omega) rfl rfl rfl rfl) (And.intro (fun hf => rfl) (And.intro rfl (And.intro rfl ?_)))))
          repeat refine And.intro (by first | exact fun h => h | exact fun _ => rfl | (intro h; rw [h]; rfl) | omega | (intros; (try dsimp only [Ty.T, Ty.size]); (try simp only [castL_self, Int.toNat_natCast, Int.toNat_zero, Int.toNat_one, true_and, List.length_append, List.length_set, List.length_drop, List.length_take, List.length_replicate, List.length_cons, List.length_nil, Nat.zero_add, Nat.mul_one]); omega) | decide | (intros; simp_all; done) | (intros; simp_all; omega)) ?_
          refine Exists.intro _ (Exists.intro _ (And.intro (StepD.addrM 0 i (osW_get (by omega)) (flat_bool _) tabOK rfl rfl (by simp only [rowT_len]; omega) rfl rfl rfl rfl rfl rfl) (And.intro rfl (And.intro rfl ?_))))
          refine Exists.intro _ (Exists.intro _ (And.intro (StepD.storeM (k := j) (c := 0) 0 i (osW_get (by omega)) (fun _ => flat_bool _) tabOK rfl rfl (by simp only [rowT_len]; omega) rfl rfl rfl rfl rfl rfl) (And.intro rfl (And.intro trivial ?_))))
          refine hK29 _ _ ?_
          clear hK29
          -- region 22
          refine AWPD.keep [7, 8, 14, 15, 16] rfl ?_
          refine AWPD.region tabOK rfl ?_
          repeat refine And.intro (by first | exact fun h => h | exact fun _ => rfl | (intro h; rw [h]; rfl) | omega | (intros; (try dsimp only [Ty.T, Ty.size]); (try simp only [castL_self, Int.toNat_natCast, Int.toNat_zero, Int.toNat_one, true_and, List.length_append, List.length_set, List.length_drop, List.length_take, List.length_replicate, List.length_cons, List.length_nil, Nat.zero_add, Nat.mul_one]); omega) | decide | (intros; simp_all; done) | (intros; simp_all; omega)) ?_
          refine ⟨n4 - 1, j + 1, [0], by omega, by omega, ⟨by decide, rfl⟩, ⟨wM_store hd (by omega) (by omega) (by omega), trivial⟩, ?_⟩
          repeat' first | exact True.intro | exact rfl | exact ⟨rfl, rfl⟩ | refine And.intro ?_ ?_
        · try dsimp only [Ty.T] at h4
          try simp only [castL_self] at h4
          try simp only [Int.toNat_natCast] at h4
          try simp only [Int.toNat_zero] at h4
          have hje : j = p.length := by omega
          subst hje
          refine AWPD.exit ?_
          refine hK25 _ _ ?_
          clear hK25
          -- region 19
          refine AWPD.keep [7, 8, 14, 15] rfl ?_
          refine AWPD.region tabOK rfl ?_
          repeat refine And.intro (by first | exact fun h => h | exact fun _ => rfl | (intro h; rw [h]; rfl) | omega | (intros; (try dsimp only [Ty.T, Ty.size]); (try simp only [castL_self, Int.toNat_natCast, Int.toNat_zero, Int.toNat_one, true_and, List.length_append, List.length_set, List.length_drop, List.length_take, List.length_replicate, List.length_cons, List.length_nil, Nat.zero_add, Nat.mul_one]); omega) | decide | (intros; simp_all; done) | (intros; simp_all; omega)) ?_
          refine ⟨n3 - 1, i + 1, [0], by omega, by omega, ⟨by decide, rfl⟩, ⟨(by show rowsC _ _ = rowsC _ _; rw [wM_row]), trivial⟩, ?_⟩
          repeat' first | exact True.intro | exact rfl | exact ⟨rfl, rfl⟩ | refine And.intro ?_ ?_
      · try dsimp only [Ty.T] at h3
        try simp only [castL_self] at h3
        try simp only [Int.toNat_natCast] at h3
        try simp only [Int.toNat_zero] at h3
        have hie : i = p.length := by omega
        subst hie
        refine AWPD.exit ?_
        refine hK21 _ _ ?_
        clear hK21
        -- region 16
        refine AWPD.keep [7, 8, 14] rfl ?_
        refine AWPD.region tabOK rfl ?_
        repeat refine And.intro (by first | exact fun h => h | exact fun _ => rfl | (intro h; rw [h]; rfl) | omega | (intros; (try dsimp only [Ty.T, Ty.size]); (try simp only [castL_self, Int.toNat_natCast, Int.toNat_zero, Int.toNat_one, true_and, List.length_append, List.length_set, List.length_drop, List.length_take, List.length_replicate, List.length_cons, List.length_nil, Nat.zero_add, Nat.mul_one]); omega) | decide | (intros; simp_all; done) | (intros; simp_all; omega)) ?_
        refine ⟨n2 - 1, k + 1, [0], by omega, by omega, ⟨by decide, rfl⟩, ⟨(by show rowsC _ _ = rowsC _ _; rw [wM_end]), trivial⟩, ?_⟩
        repeat' first | exact True.intro | exact rfl | exact ⟨rfl, rfl⟩ | refine And.intro ?_ ?_
    · try dsimp only [Ty.T] at h2
      try simp only [castL_self] at h2
      try simp only [Int.toNat_natCast] at h2
      try simp only [Int.toNat_zero] at h2
      have hke : k = p.length := by omega
      refine AWPD.exit ?_
      refine hK17 _ _ ?_
      clear hK17
      refine AWPD.seq fun K30 hK30 => ?_
      -- region 24
      refine AWPD.freezeM (τ := .bool) 8 0 (tabL p.length (wB (meG p q bb) k) p.length) rfl rfl rfl rfl ?_
      rw [hke]
      refine AWPD.keep [8] rfl ?_
      refine AWPD.region tabOK rfl ?_
      refine Exists.intro _ (Exists.intro _ (And.intro (StepD.call (named_fn p.length (wB (meG p q bb) p.length) (by omega)) rfl rfl rfl) (And.intro rfl (And.intro trivial ?_))))
      refine hK30 _ _ ?_
      clear hK30
      refine AWPD.ret (And.intro (.inl rfl) ?_)
      -- result 0
      refine RetD.one ?_
      exact fitS rfl rfl
end Go.Proofs.YtkdihpajgmiolaaDoor
