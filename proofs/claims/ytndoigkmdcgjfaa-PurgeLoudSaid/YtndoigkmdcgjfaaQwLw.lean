/-
  WALKS of the law of who is loud: the acts that are told are the first ones behind which a part sees another thing. Laid by a program of mine out of the operations, with the loops and results told by hand.
-/
import Derived.Test.YtndoigkmdcgjfaaQwLo
namespace Go.Proofs.Ytndoigkmdcgjfaa
open Go Go.Qw
set_option maxRecDepth 10000
set_option linter.unusedSimpArgs false
set_option linter.unusedVariables false


def runP (N : List (List Int)) (A f : List Int) (part : Int) (L : List Int) (i : Nat) : Int := runN N 0 (purgeL A f part (L.take i)) (purgeL A f part (L.take i)).length
theorem runP_zero (N : List (List Int)) (A f : List Int) (part : Int) (L : List Int) : runP N A f part L 0 = 0 := rfl
theorem take_snoc {L : List Int} {i : Nat} (h : i < L.length) : L.take (i + 1) = L.take i ++ [L.getD i 0] := by
  rw [List.take_add_one]
  simp [List.getD, h]
theorem runP_succ {N : List (List Int)} {A f : List Int} {part : Int} {L : List Int} {i : Nat} (h : i < L.length) : runP N A f part L (i + 1) = if actOn A f part (L.getD i 0) = true then (N.getD (runP N A f part L i).toNat []).getD (L.getD i 0).toNat 0 else runP N A f part L i := by
  unfold runP
  rw [take_snoc h, purge_app]
  split
  · rw [List.length_append, show [L.getD i 0].length = 1 from rfl, run_snoc]
  · rfl
theorem runP_yes {N : List (List Int)} {A f : List Int} {part : Int} {L : List Int} {i : Nat} (h : i < L.length) (ha : actOn A f part (L.getD i 0) = true) : (N.getD (runP N A f part L i).toNat []).getD (L.getD i 0).toNat 0 = runP N A f part L (i + 1) := by
  rw [runP_succ h, if_pos ha]
theorem runP_no {N : List (List Int)} {A f : List Int} {part : Int} {L : List Int} {i : Nat} (h : i < L.length) (ha : ¬actOn A f part (L.getD i 0) = true) : runP N A f part L i = runP N A f part L (i + 1) := by
  rw [runP_succ h, if_neg ha]
theorem runP_end (N : List (List Int)) (A f : List Int) (part : Int) (L : List Int) : runP N A f part L L.length = runN N 0 (purgeL A f part L) (purgeL A f part L).length := by
  unfold runP; rw [List.take_length]
theorem runP_in {P : Int} {A : List Int} {N S : List (List Int)} (g : GoodM P A N S) (hN : 0 < N.length) {f : List Int} {part : Int} {L : List Int} (hw : inAll L ((A.length : Int) - 1)) (i : Nat) : 0 ≤ runP N A f part L i ∧ runP N A f part L i ≤ (N.length : Int) - 1 :=
  runN_in g (s := 0) ⟨Int.le_refl _, by omega⟩ (inAll_mem.2 fun x hx => inAll_mem.1 hw x (List.mem_of_mem_take (List.mem_filter.1 hx).1)) _ (Nat.le_refl _)
theorem purge_inAll {A f : List Int} {part : Int} {L : List Int} {h : Int} (hw : inAll L h) : inAll (purgeL A f part L) h := inAll_mem.2 fun x hx => inAll_mem.1 hw x (List.mem_filter.1 hx).1

theorem purgeLoud_fn (P : Int) (A : List Int) (N S : List (List Int)) (f : List Int) (part : Int) (w : List Int) : LiftsD Try.prog 8 [.agg [.i P, .sl .int A, .sl (.sl .int) N, .sl (.sl .int) S], .sl .int f, .i part, .sl .int w] (.b true) := by
  refine LiftsD.of_body 256 [.tmp 8] Try.func8 rfl Try.ntmps8 (by kernel_rfl) rfl rfl fun w0 X0 => ?_
  refine AWPD.seq fun K1 hK1 => ?_
  -- region 0
  refine AWPD.keep [0, 1, 2, 3] rfl ?_
  refine AWPD.region tabOK rfl ?_
  refine hK1 _ _ ?_
  clear hK1
  refine AWPD.seq fun K2 hK2 => ?_
  -- region 1
  refine AWPD.keep [1, 2, 3, 4] rfl ?_
  refine AWPD.region tabOK rfl ?_
  refine Exists.intro _ (Exists.intro _ (And.intro (StepD.call (purgeFact_fn) rfl rfl rfl) (And.intro rfl (And.intro trivial ?_))))
  refine hK2 _ _ ?_
  clear hK2
  refine AWPD.seq fun K3 hK3 => ?_
  refine AWPD.seq fun K4 hK4 => ?_
  -- region 2
  refine AWPD.keep [1, 2, 3, 4, 9] rfl ?_
  refine AWPD.region tabOK rfl ?_
  refine hK4 _ _ ?_
  clear hK4
  first | refine AWPD.condP rfl (fun h0 => ?_) (fun h0 => ?_) | refine AWPD.condN rfl (fun h0 => ?_) (fun h0 => ?_) | refine AWPD.condAP rfl (fun h0 => ?_) (fun h0 => ?_) | refine AWPD.condOP rfl (fun h0 => ?_) (fun h0 => ?_) | refine AWPD.condONN rfl (fun h0 => ?_) (fun h0 => ?_) | refine AWPD.condOPN rfl (fun h0 => ?_) (fun h0 => ?_) | refine AWPD.condA rfl (fun h0 => ?_) (fun h0 => ?_) | refine AWPD.condO rfl (fun h0 => ?_) (fun h0 => ?_) | refine AWPD.cond rfl (fun h0 => ?_) (fun h0 => ?_)
  · try dsimp only [Ty.T] at h0
    try simp only [castL_self] at h0
    try simp only [Int.toNat_natCast] at h0
    try simp only [Int.toNat_zero] at h0
    exact absurd h0 (by decide)
  · try dsimp only [Ty.T] at h0
    try simp only [castL_self] at h0
    try simp only [Int.toNat_natCast] at h0
    try simp only [Int.toNat_zero] at h0
    refine AWPD.skip ?_
    refine hK3 _ _ ?_
    clear hK3
    refine AWPD.seq fun K5 hK5 => ?_
    -- region 4
    refine AWPD.keep [1, 2, 3, 4] rfl ?_
    refine AWPD.region tabOK rfl ?_
    repeat refine And.intro (by first | exact fun h => h | exact fun _ => rfl | omega | ((try dsimp only [Ty.T]); (try simp only [castL_self]); (try simp only [Int.toNat_natCast]); (try simp only [Int.toNat_zero]); (try simp only [true_and]); omega) | (intros; (try dsimp only [Ty.T]); (try simp only [castL_self]); (try simp only [Int.toNat_natCast]); (try simp only [Int.toNat_zero]); (try simp only [true_and]); omega) | ((try dsimp only [Ty.T, Ty.size]); (try simp only [castL_self, Int.toNat_natCast, Int.toNat_zero, true_and, List.length_append, List.length_set, List.length_cons, List.length_nil, Nat.zero_add, Nat.mul_one]); omega) | ((try dsimp only [Ty.T, Ty.size]); (try simp only [castL_self, Int.toNat_natCast, Int.toNat_zero, Int.toNat_one, true_and, List.length_append, List.length_set, List.length_drop, List.length_take, List.length_replicate, List.length_cons, List.length_nil, Nat.zero_add, Nat.mul_one]); omega) | decide | (intros; simp_all; done) | (intros; simp_all; omega)) ?_
    refine Exists.intro _ (Exists.intro _ (And.intro (StepD.call (quiet_fn _ _ _ _ _ _) rfl rfl rfl) (And.intro rfl (And.intro trivial ?_))))
    refine hK5 _ _ ?_
    clear hK5
    refine AWPD.seq fun K6 hK6 => ?_
    refine AWPD.seq fun K7 hK7 => ?_
    -- region 5
    refine AWPD.keep [1, 2, 3, 4, 10, 11, 12] rfl ?_
    refine AWPD.region tabOK rfl ?_
    repeat refine And.intro (by first | exact fun h => h | exact fun _ => rfl | omega | ((try dsimp only [Ty.T]); (try simp only [castL_self]); (try simp only [Int.toNat_natCast]); (try simp only [Int.toNat_zero]); (try simp only [true_and]); omega) | (intros; (try dsimp only [Ty.T]); (try simp only [castL_self]); (try simp only [Int.toNat_natCast]); (try simp only [Int.toNat_zero]); (try simp only [true_and]); omega) | ((try dsimp only [Ty.T, Ty.size]); (try simp only [castL_self, Int.toNat_natCast, Int.toNat_zero, true_and, List.length_append, List.length_set, List.length_cons, List.length_nil, Nat.zero_add, Nat.mul_one]); omega) | ((try dsimp only [Ty.T, Ty.size]); (try simp only [castL_self, Int.toNat_natCast, Int.toNat_zero, Int.toNat_one, true_and, List.length_append, List.length_set, List.length_drop, List.length_take, List.length_replicate, List.length_cons, List.length_nil, Nat.zero_add, Nat.mul_one]); omega) | decide | (intros; simp_all; done) | (intros; simp_all; omega)) ?_
    refine hK7 _ _ ?_
    clear hK7
    first | refine AWPD.cond rfl (fun h1 => ?_) (fun h1 => ?_)
    · try dsimp only [Ty.T] at h1
      try simp only [castL_self] at h1
      try simp only [Int.toNat_natCast] at h1
      try simp only [Int.toNat_zero] at h1
      simp only [Bool.cond_true_left, Bool.cond_false_right, Bool.cond_true_right, Bool.cond_false_left, Bool.or_eq_true, Bool.and_eq_true, decide_eq_true_eq, Bool.or_eq_false_iff, Bool.and_eq_false_iff, decide_eq_false_iff_not, Bool.not_eq_true', Bool.not_eq_false', Bool.not_eq_eq_eq_not, Bool.not_true, Bool.not_false] at h1
      refine AWPD.seq fun K8 hK8 => ?_
      -- region 6
      refine AWPD.keep [11] rfl ?_
      refine AWPD.region tabOK rfl ?_
      refine hK8 _ _ ?_
      clear hK8
      refine AWPD.ret (And.intro (.inl rfl) ?_)
      -- result 0
      refine RetD.one ?_
      refine fitB rfl ?_
      have e1 : quietW P A N S f part = [] := by
        unfold quietW
        rw [if_neg (fun hh => ?_)]
        rcases h1 with h | h
        · exact h hh.1
        · unfold quietV at h; rw [if_pos hh.1, hh.2] at h; cases h
      rw [e1]; rfl
    · try dsimp only [Ty.T] at h1
      try simp only [castL_self] at h1
      try simp only [Int.toNat_natCast] at h1
      try simp only [Int.toNat_zero] at h1
      simp only [Bool.cond_true_left, Bool.cond_false_right, Bool.cond_true_right, Bool.cond_false_left, Bool.or_eq_true, Bool.and_eq_true, decide_eq_true_eq, Bool.or_eq_false_iff, Bool.and_eq_false_iff, decide_eq_false_iff_not, Bool.not_eq_true', Bool.not_eq_false', Bool.not_eq_eq_eq_not, Bool.not_true, Bool.not_false] at h1
      have hc : chkE P A N S f part = 0 := by omega
      have gc := chk_good hc
      have e2 : quietV P A N S f part = quietB N A f part S := by unfold quietV; rw [if_pos hc]
      have hqf : quietB N A f part S = false := by rw [← e2]; exact h1.2
      have gP := gc.m.parts
      have gp := gc.part
      have gs := gc.m.some
      have gS := gc.m.lenS
      have g16 := gc.m.few
      have g6 := gc.m.acts6
      obtain ⟨L, hL, hin, hlen, hbad, hah⟩ := gc.loud hqf
      have e1 : quietW P A N S f part = L := by unfold quietW; rw [if_pos ⟨hc, hqf⟩]; exact hL.symm
      have h256 : N.length * N.length ≤ 256 := Nat.mul_le_mul g16 g16
      have i1 := fun i (hi : i ≤ L.length) => runN_in gc.m (s := 0) (by omega) hin i hi
      rw [e1]
      refine AWPD.skip ?_
      refine hK6 _ _ ?_
      clear hK6
      refine AWPD.seq fun K9 hK9 => ?_
      refine AWPD.seq fun K10 hK10 => ?_
      -- region 7
      refine AWPD.keep [1, 2, 3, 4, 11] rfl ?_
      refine AWPD.region tabOK rfl ?_
      refine hK10 _ _ ?_
      clear hK10
      refine AWPD.block ?_
      -- LOOP 0 live [1, 2, 3, 4, 11, 13] changed [13]
      refine AWPD.loopK (σ := Nat) [1, 2, 3, 4, 11] (fun i base => (13, .i (i : Int)) :: base) (fun _ => []) (fun n i => n + i = L.length) (L.length) 0 [] rfl rfl (by omega) (by decide) trivial (by repeat' first | exact True.intro | exact rfl | exact ⟨rfl, rfl⟩ | refine And.intro ?_ ?_) fun n0 i hI0 => ?_
      have hn0 := hI0
      refine AWPD.seq fun K11 hK11 => ?_
      refine AWPD.seq fun K12 hK12 => ?_
      -- region 8
      refine AWPD.keep [1, 2, 3, 4, 11, 13] rfl ?_
      refine AWPD.region tabOK rfl ?_
      refine hK12 _ _ ?_
      clear hK12
      first | refine AWPD.condP rfl (fun h2 => ?_) (fun h2 => ?_) | refine AWPD.condN rfl (fun h2 => ?_) (fun h2 => ?_) | refine AWPD.condAP rfl (fun h2 => ?_) (fun h2 => ?_) | refine AWPD.condOP rfl (fun h2 => ?_) (fun h2 => ?_) | refine AWPD.condONN rfl (fun h2 => ?_) (fun h2 => ?_) | refine AWPD.condOPN rfl (fun h2 => ?_) (fun h2 => ?_) | refine AWPD.condA rfl (fun h2 => ?_) (fun h2 => ?_) | refine AWPD.condO rfl (fun h2 => ?_) (fun h2 => ?_) | refine AWPD.cond rfl (fun h2 => ?_) (fun h2 => ?_)
      · try dsimp only [Ty.T] at h2
        try simp only [castL_self] at h2
        try simp only [Int.toNat_natCast] at h2
        try simp only [Int.toNat_zero] at h2
        refine AWPD.skip ?_
        refine hK11 _ _ ?_
        clear hK11
        refine AWPD.seq fun K13 hK13 => ?_
        refine AWPD.block ?_
        refine AWPD.seq fun K14 hK14 => ?_
        -- region 10
        refine AWPD.keep [1, 2, 3, 4, 11, 13] rfl ?_
        refine AWPD.draw tabOK [] rfl (by kernel_rfl) ?_
        repeat refine And.intro (by first | exact fun h => h | exact fun _ => rfl | omega | ((try dsimp only [Ty.T]); (try simp only [castL_self]); (try simp only [Int.toNat_natCast]); (try simp only [Int.toNat_zero]); (try simp only [true_and]); omega) | (intros; (try dsimp only [Ty.T]); (try simp only [castL_self]); (try simp only [Int.toNat_natCast]); (try simp only [Int.toNat_zero]); (try simp only [true_and]); omega) | ((try dsimp only [Ty.T, Ty.size]); (try simp only [castL_self, Int.toNat_natCast, Int.toNat_zero, true_and, List.length_append, List.length_set, List.length_cons, List.length_nil, Nat.zero_add, Nat.mul_one]); omega) | ((try dsimp only [Ty.T, Ty.size]); (try simp only [castL_self, Int.toNat_natCast, Int.toNat_zero, Int.toNat_one, true_and, List.length_append, List.length_set, List.length_drop, List.length_take, List.length_replicate, List.length_cons, List.length_nil, Nat.zero_add, Nat.mul_one]); omega) | decide | (intros; simp_all; done) | (intros; simp_all; omega)) ?_
        refine hK14 _ _ ?_
        clear hK14
        first | refine AWPD.cond rfl (fun h3 => ?_) (fun h3 => ?_)
        · try dsimp only [Ty.T] at h3
          try simp only [castL_self] at h3
          try simp only [Int.toNat_natCast] at h3
          try simp only [Int.toNat_zero] at h3
          simp only [Bool.cond_true_left, Bool.cond_false_right, Bool.cond_true_right, Bool.cond_false_left, Bool.or_eq_true, Bool.and_eq_true, decide_eq_true_eq, Bool.or_eq_false_iff, Bool.and_eq_false_iff, decide_eq_false_iff_not, Bool.not_eq_true', Bool.not_eq_false', Bool.not_eq_eq_eq_not, Bool.not_true, Bool.not_false] at h3
          exfalso; have hh := hin i (by omega); omega
        · try dsimp only [Ty.T] at h3
          try simp only [castL_self] at h3
          try simp only [Int.toNat_natCast] at h3
          try simp only [Int.toNat_zero] at h3
          simp only [Bool.cond_true_left, Bool.cond_false_right, Bool.cond_true_right, Bool.cond_false_left, Bool.or_eq_true, Bool.and_eq_true, decide_eq_true_eq, Bool.or_eq_false_iff, Bool.and_eq_false_iff, decide_eq_false_iff_not, Bool.not_eq_true', Bool.not_eq_false', Bool.not_eq_eq_eq_not, Bool.not_true, Bool.not_false] at h3
          refine AWPD.skip ?_
          refine hK13 _ _ ?_
          clear hK13
          -- region 9
          refine AWPD.keep [1, 2, 3, 4, 11, 13] rfl ?_
          refine AWPD.region tabOK rfl ?_
          repeat refine And.intro (by first | exact fun h => h | exact fun _ => rfl | omega | ((try dsimp only [Ty.T]); (try simp only [castL_self]); (try simp only [Int.toNat_natCast]); (try simp only [Int.toNat_zero]); (try simp only [true_and]); omega) | (intros; (try dsimp only [Ty.T]); (try simp only [castL_self]); (try simp only [Int.toNat_natCast]); (try simp only [Int.toNat_zero]); (try simp only [true_and]); omega) | ((try dsimp only [Ty.T, Ty.size]); (try simp only [castL_self, Int.toNat_natCast, Int.toNat_zero, true_and, List.length_append, List.length_set, List.length_cons, List.length_nil, Nat.zero_add, Nat.mul_one]); omega) | ((try dsimp only [Ty.T, Ty.size]); (try simp only [castL_self, Int.toNat_natCast, Int.toNat_zero, Int.toNat_one, true_and, List.length_append, List.length_set, List.length_drop, List.length_take, List.length_replicate, List.length_cons, List.length_nil, Nat.zero_add, Nat.mul_one]); omega) | decide | (intros; simp_all; done) | (intros; simp_all; omega)) ?_
          refine ⟨n0 - 1, i + 1, [], by omega, by omega, ⟨by decide, rfl⟩, trivial, ?_⟩
          repeat' first | exact True.intro | exact rfl | exact ⟨rfl, rfl⟩ | refine And.intro ?_ ?_
      · try dsimp only [Ty.T] at h2
        try simp only [castL_self] at h2
        try simp only [Int.toNat_natCast] at h2
        try simp only [Int.toNat_zero] at h2
        refine AWPD.exit ?_
        refine hK9 _ _ ?_
        clear hK9
        refine AWPD.seq fun K15 hK15 => ?_
        -- region 12
        refine AWPD.keep [1, 2, 3, 4, 11] rfl ?_
        refine AWPD.region tabOK rfl ?_
        refine hK15 _ _ ?_
        clear hK15
        refine AWPD.seq fun K16 hK16 => ?_
        -- region 13
        refine AWPD.keep [1, 2, 3, 4, 11, 14] rfl ?_
        refine AWPD.region tabOK rfl ?_
        refine hK16 _ _ ?_
        clear hK16
        refine AWPD.seq fun K17 hK17 => ?_
        refine AWPD.seq fun K18 hK18 => ?_
        -- region 14
        refine AWPD.keep [1, 2, 3, 4, 11, 14, 15] rfl ?_
        refine AWPD.region tabOK rfl ?_
        refine hK18 _ _ ?_
        clear hK18
        refine AWPD.block ?_
        -- LOOP 1 live [1, 2, 3, 4, 11, 14, 15, 16] changed [14, 15, 16]
        refine AWPD.loopK (σ := Nat) [1, 2, 3, 4, 11] (fun i base => (14, .i (runN N 0 L i)) :: (15, .i (runP N A f part L i)) :: (16, .i (i : Int)) :: base) (fun _ => []) (fun n i => n + i = L.length) (L.length) 0 [] rfl rfl (by omega) (by decide) trivial (by repeat' first | exact True.intro | exact rfl | exact ⟨rfl, rfl⟩ | refine And.intro ?_ ?_) fun n1 i hI1 => ?_
        have hn1 := hI1
        refine AWPD.seq fun K19 hK19 => ?_
        refine AWPD.seq fun K20 hK20 => ?_
        -- region 15
        refine AWPD.keep [1, 2, 3, 4, 11, 14, 15, 16] rfl ?_
        refine AWPD.region tabOK rfl ?_
        refine hK20 _ _ ?_
        clear hK20
        first | refine AWPD.condP rfl (fun h4 => ?_) (fun h4 => ?_) | refine AWPD.condN rfl (fun h4 => ?_) (fun h4 => ?_) | refine AWPD.condAP rfl (fun h4 => ?_) (fun h4 => ?_) | refine AWPD.condOP rfl (fun h4 => ?_) (fun h4 => ?_) | refine AWPD.condONN rfl (fun h4 => ?_) (fun h4 => ?_) | refine AWPD.condOPN rfl (fun h4 => ?_) (fun h4 => ?_) | refine AWPD.condA rfl (fun h4 => ?_) (fun h4 => ?_) | refine AWPD.condO rfl (fun h4 => ?_) (fun h4 => ?_) | refine AWPD.cond rfl (fun h4 => ?_) (fun h4 => ?_)
        · try dsimp only [Ty.T] at h4
          try simp only [castL_self] at h4
          try simp only [Int.toNat_natCast] at h4
          try simp only [Int.toNat_zero] at h4
          have hLi := hin i (by omega)
          have r1 := i1 i (by omega)
          have r2 := runP_in gc.m gs (f := f) (part := part) hin i
          have q1 := gc.m.rowN (runN N 0 L i).toNat (by omega)
          have q2 := gc.m.rowN (runP N A f part L i).toNat (by omega)
          have act := gc.act (a := (L.getD i 0).toNat) (by omega)
          refine AWPD.skip ?_
          refine hK19 _ _ ?_
          clear hK19
          refine AWPD.seq fun K21 hK21 => ?_
          refine AWPD.block ?_
          refine AWPD.seq fun K22 hK22 => ?_
          -- region 17
          refine AWPD.keep [1, 2, 3, 4, 11, 14, 15, 16] rfl ?_
          refine AWPD.draw tabOK [] rfl (by kernel_rfl) ?_
          repeat refine And.intro (by first | exact fun h => h | exact fun _ => rfl | omega | ((try dsimp only [Ty.T]); (try simp only [castL_self]); (try simp only [Int.toNat_natCast]); (try simp only [Int.toNat_zero]); (try simp only [true_and]); omega) | (intros; (try dsimp only [Ty.T]); (try simp only [castL_self]); (try simp only [Int.toNat_natCast]); (try simp only [Int.toNat_zero]); (try simp only [true_and]); omega) | ((try dsimp only [Ty.T, Ty.size]); (try simp only [castL_self, Int.toNat_natCast, Int.toNat_zero, true_and, List.length_append, List.length_set, List.length_cons, List.length_nil, Nat.zero_add, Nat.mul_one]); omega) | ((try dsimp only [Ty.T, Ty.size]); (try simp only [castL_self, Int.toNat_natCast, Int.toNat_zero, Int.toNat_one, true_and, List.length_append, List.length_set, List.length_drop, List.length_take, List.length_replicate, List.length_cons, List.length_nil, Nat.zero_add, Nat.mul_one]); omega) | decide | (intros; simp_all; done) | (intros; simp_all; omega)) ?_
          refine hK22 _ _ ?_
          clear hK22
          refine AWPD.seq fun K23 hK23 => ?_
          -- region 18
          refine AWPD.keep [1, 2, 3, 4, 11, 14, 15, 16] rfl ?_
          refine AWPD.draw tabOK [] rfl (by kernel_rfl) ?_
          repeat refine And.intro (by first | exact fun h => h | exact fun _ => rfl | omega | ((try dsimp only [Ty.T]); (try simp only [castL_self]); (try simp only [Int.toNat_natCast]); (try simp only [Int.toNat_zero]); (try simp only [true_and]); omega) | (intros; (try dsimp only [Ty.T]); (try simp only [castL_self]); (try simp only [Int.toNat_natCast]); (try simp only [Int.toNat_zero]); (try simp only [true_and]); omega) | ((try dsimp only [Ty.T, Ty.size]); (try simp only [castL_self, Int.toNat_natCast, Int.toNat_zero, true_and, List.length_append, List.length_set, List.length_cons, List.length_nil, Nat.zero_add, Nat.mul_one]); omega) | ((try dsimp only [Ty.T, Ty.size]); (try simp only [castL_self, Int.toNat_natCast, Int.toNat_zero, Int.toNat_one, true_and, List.length_append, List.length_set, List.length_drop, List.length_take, List.length_replicate, List.length_cons, List.length_nil, Nat.zero_add, Nat.mul_one]); omega) | decide | (intros; simp_all; done) | (intros; simp_all; omega)) ?_
          refine Exists.intro _ (Exists.intro _ (And.intro (StepD.call (bit_fn (f.getD (A.getD (L.getD i 0).toNat 0).toNat 0) part (by omega) (by omega)) rfl rfl rfl) (And.intro rfl (And.intro rfl ?_))))
          refine hK23 _ _ ?_
          clear hK23
          first | refine AWPD.cond rfl (fun h5 => ?_) (fun h5 => ?_)
          · try dsimp only [Ty.T] at h5
            try simp only [castL_self] at h5
            try simp only [Int.toNat_natCast] at h5
            try simp only [Int.toNat_zero] at h5
            have hac : actOn A f part (L.getD i 0) = true := h5
            -- region 19
            refine AWPD.keep [1, 2, 3, 4, 11, 14, 15, 16] rfl ?_
            refine AWPD.draw tabOK [] rfl (by kernel_rfl) ?_
            repeat refine And.intro (by first | exact fun h => h | exact fun _ => rfl | omega | ((try dsimp only [Ty.T]); (try simp only [castL_self]); (try simp only [Int.toNat_natCast]); (try simp only [Int.toNat_zero]); (try simp only [true_and]); omega) | (intros; (try dsimp only [Ty.T]); (try simp only [castL_self]); (try simp only [Int.toNat_natCast]); (try simp only [Int.toNat_zero]); (try simp only [true_and]); omega) | ((try dsimp only [Ty.T, Ty.size]); (try simp only [castL_self, Int.toNat_natCast, Int.toNat_zero, true_and, List.length_append, List.length_set, List.length_cons, List.length_nil, Nat.zero_add, Nat.mul_one]); omega) | ((try dsimp only [Ty.T, Ty.size]); (try simp only [castL_self, Int.toNat_natCast, Int.toNat_zero, Int.toNat_one, true_and, List.length_append, List.length_set, List.length_drop, List.length_take, List.length_replicate, List.length_cons, List.length_nil, Nat.zero_add, Nat.mul_one]); omega) | decide | (intros; simp_all; done) | (intros; simp_all; omega)) ?_
            refine hK21 _ _ ?_
            clear hK21
            -- region 16
            refine AWPD.keep [1, 2, 3, 4, 11, 14, 15, 16] rfl ?_
            refine AWPD.region tabOK rfl ?_
            repeat refine And.intro (by first | exact fun h => h | exact fun _ => rfl | omega | ((try dsimp only [Ty.T]); (try simp only [castL_self]); (try simp only [Int.toNat_natCast]); (try simp only [Int.toNat_zero]); (try simp only [true_and]); omega) | (intros; (try dsimp only [Ty.T]); (try simp only [castL_self]); (try simp only [Int.toNat_natCast]); (try simp only [Int.toNat_zero]); (try simp only [true_and]); omega) | ((try dsimp only [Ty.T, Ty.size]); (try simp only [castL_self, Int.toNat_natCast, Int.toNat_zero, true_and, List.length_append, List.length_set, List.length_cons, List.length_nil, Nat.zero_add, Nat.mul_one]); omega) | ((try dsimp only [Ty.T, Ty.size]); (try simp only [castL_self, Int.toNat_natCast, Int.toNat_zero, Int.toNat_one, true_and, List.length_append, List.length_set, List.length_drop, List.length_take, List.length_replicate, List.length_cons, List.length_nil, Nat.zero_add, Nat.mul_one]); omega) | decide | (intros; simp_all; done) | (intros; simp_all; omega)) ?_
            refine ⟨n1 - 1, i + 1, [], by omega, by omega, ⟨by decide, rfl⟩, trivial, ?_⟩
            repeat' first | exact runP_yes (by omega) hac | exact runP_no (by omega) hac | exact True.intro | exact rfl | exact ⟨rfl, rfl⟩ | refine And.intro ?_ ?_
          · try dsimp only [Ty.T] at h5
            try simp only [castL_self] at h5
            try simp only [Int.toNat_natCast] at h5
            try simp only [Int.toNat_zero] at h5
            have hac : ¬actOn A f part (L.getD i 0) = true := by rw [show actOn A f part (L.getD i 0) = false from h5]; decide
            refine AWPD.skip ?_
            refine hK21 _ _ ?_
            clear hK21
            -- region 16
            refine AWPD.keep [1, 2, 3, 4, 11, 14, 15, 16] rfl ?_
            refine AWPD.region tabOK rfl ?_
            repeat refine And.intro (by first | exact fun h => h | exact fun _ => rfl | omega | ((try dsimp only [Ty.T]); (try simp only [castL_self]); (try simp only [Int.toNat_natCast]); (try simp only [Int.toNat_zero]); (try simp only [true_and]); omega) | (intros; (try dsimp only [Ty.T]); (try simp only [castL_self]); (try simp only [Int.toNat_natCast]); (try simp only [Int.toNat_zero]); (try simp only [true_and]); omega) | ((try dsimp only [Ty.T, Ty.size]); (try simp only [castL_self, Int.toNat_natCast, Int.toNat_zero, true_and, List.length_append, List.length_set, List.length_cons, List.length_nil, Nat.zero_add, Nat.mul_one]); omega) | ((try dsimp only [Ty.T, Ty.size]); (try simp only [castL_self, Int.toNat_natCast, Int.toNat_zero, Int.toNat_one, true_and, List.length_append, List.length_set, List.length_drop, List.length_take, List.length_replicate, List.length_cons, List.length_nil, Nat.zero_add, Nat.mul_one]); omega) | decide | (intros; simp_all; done) | (intros; simp_all; omega)) ?_
            refine ⟨n1 - 1, i + 1, [], by omega, by omega, ⟨by decide, rfl⟩, trivial, ?_⟩
            repeat' first | exact runP_yes (by omega) hac | exact runP_no (by omega) hac | exact True.intro | exact rfl | exact ⟨rfl, rfl⟩ | refine And.intro ?_ ?_
        · try dsimp only [Ty.T] at h4
          try simp only [castL_self] at h4
          try simp only [Int.toNat_natCast] at h4
          try simp only [Int.toNat_zero] at h4
          have hiL : i = L.length := by omega
          subst hiL
          have r1 := i1 L.length (Nat.le_refl _)
          have r2 := runP_in gc.m gs (f := f) (part := part) hin L.length
          have s1 := gc.m.rowS (runN N 0 L L.length).toNat (by omega)
          have s2 := gc.m.rowS (runP N A f part L L.length).toNat (by omega)
          refine AWPD.exit ?_
          refine hK17 _ _ ?_
          clear hK17
          refine AWPD.seq fun K24 hK24 => ?_
          refine AWPD.seq fun K25 hK25 => ?_
          -- region 20
          refine AWPD.keep [1, 2, 3, 4, 11, 14, 15] rfl ?_
          refine AWPD.draw tabOK [] rfl (by kernel_rfl) ?_
          repeat refine And.intro (by first | exact fun h => h | exact fun _ => rfl | omega | ((try dsimp only [Ty.T]); (try simp only [castL_self]); (try simp only [Int.toNat_natCast]); (try simp only [Int.toNat_zero]); (try simp only [true_and]); omega) | (intros; (try dsimp only [Ty.T]); (try simp only [castL_self]); (try simp only [Int.toNat_natCast]); (try simp only [Int.toNat_zero]); (try simp only [true_and]); omega) | ((try dsimp only [Ty.T, Ty.size]); (try simp only [castL_self, Int.toNat_natCast, Int.toNat_zero, true_and, List.length_append, List.length_set, List.length_cons, List.length_nil, Nat.zero_add, Nat.mul_one]); omega) | ((try dsimp only [Ty.T, Ty.size]); (try simp only [castL_self, Int.toNat_natCast, Int.toNat_zero, Int.toNat_one, true_and, List.length_append, List.length_set, List.length_drop, List.length_take, List.length_replicate, List.length_cons, List.length_nil, Nat.zero_add, Nat.mul_one]); omega) | decide | (intros; simp_all; done) | (intros; simp_all; omega)) ?_
          refine hK25 _ _ ?_
          clear hK25
          first | refine AWPD.cond rfl (fun h6 => ?_) (fun h6 => ?_)
          · try dsimp only [Ty.T] at h6
            try simp only [castL_self] at h6
            try simp only [Int.toNat_natCast] at h6
            try simp only [Int.toNat_zero] at h6
            simp only [Bool.cond_true_left, Bool.cond_false_right, Bool.cond_true_right, Bool.cond_false_left, Bool.or_eq_true, Bool.and_eq_true, decide_eq_true_eq, Bool.or_eq_false_iff, Bool.and_eq_false_iff, decide_eq_false_iff_not, Bool.not_eq_true', Bool.not_eq_false', Bool.not_eq_eq_eq_not, Bool.not_true, Bool.not_false] at h6
            exfalso
            rcases h6 with h | h
            · rw [runP_end] at h; exact hbad h
            · omega
          · try dsimp only [Ty.T] at h6
            try simp only [castL_self] at h6
            try simp only [Int.toNat_natCast] at h6
            try simp only [Int.toNat_zero] at h6
            simp only [Bool.cond_true_left, Bool.cond_false_right, Bool.cond_true_right, Bool.cond_false_left, Bool.or_eq_true, Bool.and_eq_true, decide_eq_true_eq, Bool.or_eq_false_iff, Bool.and_eq_false_iff, decide_eq_false_iff_not, Bool.not_eq_true', Bool.not_eq_false', Bool.not_eq_eq_eq_not, Bool.not_true, Bool.not_false] at h6
            refine AWPD.skip ?_
            refine hK24 _ _ ?_
            clear hK24
            refine AWPD.seq fun K26 hK26 => ?_
            -- region 22
            refine AWPD.keep [1, 2, 3, 4, 11] rfl ?_
            refine AWPD.region tabOK rfl ?_
            repeat refine And.intro (by first | exact fun h => h | exact fun _ => rfl | omega | ((try dsimp only [Ty.T]); (try simp only [castL_self]); (try simp only [Int.toNat_natCast]); (try simp only [Int.toNat_zero]); (try simp only [true_and]); omega) | (intros; (try dsimp only [Ty.T]); (try simp only [castL_self]); (try simp only [Int.toNat_natCast]); (try simp only [Int.toNat_zero]); (try simp only [true_and]); omega) | ((try dsimp only [Ty.T, Ty.size]); (try simp only [castL_self, Int.toNat_natCast, Int.toNat_zero, true_and, List.length_append, List.length_set, List.length_cons, List.length_nil, Nat.zero_add, Nat.mul_one]); omega) | ((try dsimp only [Ty.T, Ty.size]); (try simp only [castL_self, Int.toNat_natCast, Int.toNat_zero, Int.toNat_one, true_and, List.length_append, List.length_set, List.length_drop, List.length_take, List.length_replicate, List.length_cons, List.length_nil, Nat.zero_add, Nat.mul_one]); omega) | decide | (intros; simp_all; done) | (intros; simp_all; omega)) ?_
            refine Exists.intro _ (Exists.intro _ (And.intro (StepD.call (purge_fn _ _ _ _ _ _ _) rfl rfl rfl) (And.intro rfl (And.intro trivial ?_))))
            refine hK26 _ _ ?_
            clear hK26
            refine AWPD.seq fun K27 hK27 => ?_
            refine AWPD.seq fun K28 hK28 => ?_
            -- region 23
            refine AWPD.keep [2, 3, 4, 11, 17, 18] rfl ?_
            refine AWPD.region tabOK rfl ?_
            repeat refine And.intro (by first | exact fun h => h | exact fun _ => rfl | omega | ((try dsimp only [Ty.T]); (try simp only [castL_self]); (try simp only [Int.toNat_natCast]); (try simp only [Int.toNat_zero]); (try simp only [true_and]); omega) | (intros; (try dsimp only [Ty.T]); (try simp only [castL_self]); (try simp only [Int.toNat_natCast]); (try simp only [Int.toNat_zero]); (try simp only [true_and]); omega) | ((try dsimp only [Ty.T, Ty.size]); (try simp only [castL_self, Int.toNat_natCast, Int.toNat_zero, true_and, List.length_append, List.length_set, List.length_cons, List.length_nil, Nat.zero_add, Nat.mul_one]); omega) | ((try dsimp only [Ty.T, Ty.size]); (try simp only [castL_self, Int.toNat_natCast, Int.toNat_zero, Int.toNat_one, true_and, List.length_append, List.length_set, List.length_drop, List.length_take, List.length_replicate, List.length_cons, List.length_nil, Nat.zero_add, Nat.mul_one]); omega) | decide | (intros; simp_all; done) | (intros; simp_all; omega)) ?_
            refine hK28 _ _ ?_
            clear hK28
            first | refine AWPD.cond rfl (fun h7 => ?_) (fun h7 => ?_)
            · try dsimp only [Ty.T] at h7
              try simp only [castL_self] at h7
              try simp only [Int.toNat_natCast] at h7
              try simp only [Int.toNat_zero] at h7
              simp only [Bool.cond_true_left, Bool.cond_false_right, Bool.cond_true_right, Bool.cond_false_left, Bool.or_eq_true, Bool.and_eq_true, decide_eq_true_eq, Bool.or_eq_false_iff, Bool.and_eq_false_iff, decide_eq_false_iff_not, Bool.not_eq_true', Bool.not_eq_false', Bool.not_eq_eq_eq_not, Bool.not_true, Bool.not_false] at h7
              refine AWPD.seq fun K29 hK29 => ?_
              -- region 24
              refine AWPD.keep [] rfl ?_
              refine AWPD.region tabOK rfl ?_
              refine hK29 _ _ ?_
              clear hK29
              refine AWPD.ret (And.intro (.inl rfl) ?_)
              -- result 1
              refine RetD.one ?_
              exact fitB rfl rfl
            · try dsimp only [Ty.T] at h7
              try simp only [castL_self] at h7
              try simp only [Int.toNat_natCast] at h7
              try simp only [Int.toNat_zero] at h7
              simp only [Bool.cond_true_left, Bool.cond_false_right, Bool.cond_true_right, Bool.cond_false_left, Bool.or_eq_true, Bool.and_eq_true, decide_eq_true_eq, Bool.or_eq_false_iff, Bool.and_eq_false_iff, decide_eq_false_iff_not, Bool.not_eq_true', Bool.not_eq_false', Bool.not_eq_eq_eq_not, Bool.not_true, Bool.not_false] at h7
              have hb0 : bothE P A N S f part w = 0 := by omega
              have hvv : purgeV P A N S f part w = purgeL A f part w := by unfold purgeV; rw [if_pos hb0]
              have hwl : w.length ≤ L.length := by omega
              have gw := both_ok hb0
              have m1 := gw.he
              have v40 := gw.few
              have hwin := gw.w
              have hw0 := word_zero m1 v40 hwin
              have hvin : inAll (purgeL A f part w) ((A.length : Int) - 1) := purge_inAll hwin
              have hv40 : (purgeL A f part w).length ≤ 40 := Nat.le_trans (List.length_filter_le _ _) v40
              have ee1 : runE P A N S 0 w = 0 := by unfold runE; rw [if_neg (fun h => h hw0), if_pos (by omega)]
              have ee2 : runE P A N S 0 (purgeL A f part w) = 0 := by unfold runE; rw [if_neg (fun h => h (word_zero m1 hv40 hvin)), if_pos (by omega)]
              have ev1 : runV P A N S 0 w = runN N 0 w w.length := by unfold runV; rw [if_pos ee1]
              have ev2 : runV P A N S 0 (purgeL A f part w) = runN N 0 (purgeL A f part w) (purgeL A f part w).length := by unfold runV; rw [if_pos ee2]
              have x1 := runN_in gc.m (s := 0) (by omega) hwin w.length (Nat.le_refl _)
              have x2 := runN_in gc.m (s := 0) (by omega) hvin (purgeL A f part w).length (Nat.le_refl _)
              have t1 := gc.m.rowS (runN N 0 w w.length).toNat (by omega)
              have t2 := gc.m.rowS (runN N 0 (purgeL A f part w) (purgeL A f part w).length).toNat (by omega)
              rw [hvv]
              refine AWPD.skip ?_
              refine hK27 _ _ ?_
              clear hK27
              refine AWPD.seq fun K30 hK30 => ?_
              have tail30 : ∀ fr : DF, keepF fr [2, 3, 4, 11, 17] [] = some [(17, .sl .int (purgeL A f part w)), (11, .sl .int L), (4, .bp [.i P, .sl .int A, .sl (.sl .int) N, .sl (.sl .int) S] 0), (3, .sl .int w), (2, .i part)] → (slt w L ∨ (w.length = 0 ∧ L.length = 0)) → K30 fr [] := by
                intro fr hkf hs
                refine hK30 fr [] (AWPD.keep [2, 3, 4, 11, 17] hkf ?_)
                clear hkf hK30
                refine AWPD.seq fun K31 hK31 => ?_
                -- region 33
                refine AWPD.keep [2, 3, 4, 11, 17] rfl ?_
                refine AWPD.region tabOK rfl ?_
                repeat refine And.intro (by first | exact fun h => h | exact fun _ => rfl | omega | ((try dsimp only [Ty.T]); (try simp only [castL_self]); (try simp only [Int.toNat_natCast]); (try simp only [Int.toNat_zero]); (try simp only [true_and]); omega) | (intros; (try dsimp only [Ty.T]); (try simp only [castL_self]); (try simp only [Int.toNat_natCast]); (try simp only [Int.toNat_zero]); (try simp only [true_and]); omega) | ((try dsimp only [Ty.T, Ty.size]); (try simp only [castL_self, Int.toNat_natCast, Int.toNat_zero, true_and, List.length_append, List.length_set, List.length_cons, List.length_nil, Nat.zero_add, Nat.mul_one]); omega) | ((try dsimp only [Ty.T, Ty.size]); (try simp only [castL_self, Int.toNat_natCast, Int.toNat_zero, Int.toNat_one, true_and, List.length_append, List.length_set, List.length_drop, List.length_take, List.length_replicate, List.length_cons, List.length_nil, Nat.zero_add, Nat.mul_one]); omega) | decide | (intros; simp_all; done) | (intros; simp_all; omega)) ?_
                refine Exists.intro _ (Exists.intro _ (And.intro (StepD.call (run_fn _ _ _ _ _ _) rfl rfl rfl) (And.intro rfl (And.intro trivial ?_))))
                refine hK31 _ _ ?_
                clear hK31
                refine AWPD.seq fun K32 hK32 => ?_
                -- region 34
                refine AWPD.keep [2, 3, 4, 11, 17, 20, 21] rfl ?_
                refine AWPD.region tabOK rfl ?_
                repeat refine And.intro (by first | exact fun h => h | exact fun _ => rfl | omega | ((try dsimp only [Ty.T]); (try simp only [castL_self]); (try simp only [Int.toNat_natCast]); (try simp only [Int.toNat_zero]); (try simp only [true_and]); omega) | (intros; (try dsimp only [Ty.T]); (try simp only [castL_self]); (try simp only [Int.toNat_natCast]); (try simp only [Int.toNat_zero]); (try simp only [true_and]); omega) | ((try dsimp only [Ty.T, Ty.size]); (try simp only [castL_self, Int.toNat_natCast, Int.toNat_zero, true_and, List.length_append, List.length_set, List.length_cons, List.length_nil, Nat.zero_add, Nat.mul_one]); omega) | ((try dsimp only [Ty.T, Ty.size]); (try simp only [castL_self, Int.toNat_natCast, Int.toNat_zero, Int.toNat_one, true_and, List.length_append, List.length_set, List.length_drop, List.length_take, List.length_replicate, List.length_cons, List.length_nil, Nat.zero_add, Nat.mul_one]); omega) | decide | (intros; simp_all; done) | (intros; simp_all; omega)) ?_
                refine Exists.intro _ (Exists.intro _ (And.intro (StepD.call (run_fn _ _ _ _ _ _) rfl rfl rfl) (And.intro rfl (And.intro trivial ?_))))
                refine hK32 _ _ ?_
                clear hK32
                refine AWPD.seq fun K33 hK33 => ?_
                -- region 35
                rw [ev1, ev2, ee1, ee2]
                have hx := hah w hwin
                clear hah hbad ev1 ev2 ee1 ee2 hvin hwin i1 e1 hL hqf e2 h1 hc r1 r2 s1 s2 hin hlen
                generalize runN N 0 w w.length = X at *
                generalize runN N 0 (purgeL A f part w) (purgeL A f part w).length = Y at *
                refine AWPD.keep [2, 3, 4, 11, 20, 21, 22, 23] rfl ?_
                refine AWPD.draw tabOK [] rfl (by kernel_rfl) ?_
                repeat refine And.intro (by first | exact fun h => h | exact fun _ => ⟨by omega, by omega⟩ | (intro hc hb; rw [hc, hb]; done) | (intro hc hb; rw [hc, hb]; rfl) | (intro _; omega)) ?_
                refine hK33 _ _ ?_
                clear hK33
                refine AWPD.ret (And.intro (.inl rfl) ?_)
                -- result 2
                refine RetD.one ?_
                refine fitB rfl ?_
                rcases hs with hs | ⟨hz, hz2⟩
                · rw [hx hs]
                  simp
                  omega
                · simp [hz, hz2]
                  omega
              clear hK30
              refine AWPD.seq fun K34 hK34 => ?_
              -- region 25
              refine AWPD.keep [2, 3, 4, 11, 17] rfl ?_
              refine AWPD.region tabOK rfl ?_
              refine hK34 _ _ ?_
              clear hK34
              refine AWPD.block ?_
              -- LOOP 2 live [2, 3, 4, 11, 17, 19] changed [19]
              refine AWPD.loopK (σ := Nat) [2, 3, 4, 11, 17] (fun j base => (19, .i (j : Int)) :: base) (fun _ => []) (fun n j => n + j = w.length ∧ (∀ q, q < j → w.getD q 0 = L.getD q 0) ∧ (j = 0 ∨ j < w.length)) (w.length) 0 [] rfl rfl (⟨by omega, ⟨fun q hq => by omega, .inl rfl⟩⟩) (by decide) trivial (by repeat' first | exact True.intro | exact rfl | exact ⟨rfl, rfl⟩ | refine And.intro ?_ ?_) fun n2 j hI2 => ?_
              obtain ⟨hn2, hv2⟩ := hI2
              refine AWPD.seq fun K35 hK35 => ?_
              refine AWPD.seq fun K36 hK36 => ?_
              -- region 26
              refine AWPD.keep [2, 3, 4, 11, 17, 19] rfl ?_
              refine AWPD.region tabOK rfl ?_
              repeat refine And.intro (by first | exact fun h => h | exact fun _ => rfl | omega | ((try dsimp only [Ty.T]); (try simp only [castL_self]); (try simp only [Int.toNat_natCast]); (try simp only [Int.toNat_zero]); (try simp only [true_and]); omega) | (intros; (try dsimp only [Ty.T]); (try simp only [castL_self]); (try simp only [Int.toNat_natCast]); (try simp only [Int.toNat_zero]); (try simp only [true_and]); omega) | ((try dsimp only [Ty.T, Ty.size]); (try simp only [castL_self, Int.toNat_natCast, Int.toNat_zero, true_and, List.length_append, List.length_set, List.length_cons, List.length_nil, Nat.zero_add, Nat.mul_one]); omega) | ((try dsimp only [Ty.T, Ty.size]); (try simp only [castL_self, Int.toNat_natCast, Int.toNat_zero, Int.toNat_one, true_and, List.length_append, List.length_set, List.length_drop, List.length_take, List.length_replicate, List.length_cons, List.length_nil, Nat.zero_add, Nat.mul_one]); omega) | decide | (intros; simp_all; done) | (intros; simp_all; omega)) ?_
              refine hK36 _ _ ?_
              clear hK36
              first | refine AWPD.cond rfl (fun h8 => ?_) (fun h8 => ?_)
              · try dsimp only [Ty.T] at h8
                try simp only [castL_self] at h8
                try simp only [Int.toNat_natCast] at h8
                try simp only [Int.toNat_zero] at h8
                simp only [Bool.cond_true_left, Bool.cond_false_right, Bool.cond_true_right, Bool.cond_false_left, Bool.or_eq_true, Bool.and_eq_true, decide_eq_true_eq, Bool.or_eq_false_iff, Bool.and_eq_false_iff, decide_eq_false_iff_not, Bool.not_eq_true', Bool.not_eq_false', Bool.not_eq_eq_eq_not, Bool.not_true, Bool.not_false] at h8
                refine AWPD.skip ?_
                refine hK35 _ _ ?_
                clear hK35
                refine AWPD.seq fun K37 hK37 => ?_
                refine AWPD.block ?_
                refine AWPD.seq fun K38 hK38 => ?_
                refine AWPD.seq fun K39 hK39 => ?_
                -- region 28
                refine AWPD.keep [2, 3, 4, 11, 17, 19] rfl ?_
                refine AWPD.draw tabOK [] rfl (by kernel_rfl) ?_
                repeat refine And.intro (by first | exact fun h => h | exact fun _ => rfl | omega | ((try dsimp only [Ty.T]); (try simp only [castL_self]); (try simp only [Int.toNat_natCast]); (try simp only [Int.toNat_zero]); (try simp only [true_and]); omega) | (intros; (try dsimp only [Ty.T]); (try simp only [castL_self]); (try simp only [Int.toNat_natCast]); (try simp only [Int.toNat_zero]); (try simp only [true_and]); omega) | ((try dsimp only [Ty.T, Ty.size]); (try simp only [castL_self, Int.toNat_natCast, Int.toNat_zero, true_and, List.length_append, List.length_set, List.length_cons, List.length_nil, Nat.zero_add, Nat.mul_one]); omega) | ((try dsimp only [Ty.T, Ty.size]); (try simp only [castL_self, Int.toNat_natCast, Int.toNat_zero, Int.toNat_one, true_and, List.length_append, List.length_set, List.length_drop, List.length_take, List.length_replicate, List.length_cons, List.length_nil, Nat.zero_add, Nat.mul_one]); omega) | decide | (intros; simp_all; done) | (intros; simp_all; omega)) ?_
                refine hK39 _ _ ?_
                clear hK39
                first | refine AWPD.condP rfl (fun h9 => ?_) (fun h9 => ?_) | refine AWPD.condN rfl (fun h9 => ?_) (fun h9 => ?_) | refine AWPD.condAP rfl (fun h9 => ?_) (fun h9 => ?_) | refine AWPD.condOP rfl (fun h9 => ?_) (fun h9 => ?_) | refine AWPD.condONN rfl (fun h9 => ?_) (fun h9 => ?_) | refine AWPD.condOPN rfl (fun h9 => ?_) (fun h9 => ?_) | refine AWPD.condA rfl (fun h9 => ?_) (fun h9 => ?_) | refine AWPD.condO rfl (fun h9 => ?_) (fun h9 => ?_) | refine AWPD.cond rfl (fun h9 => ?_) (fun h9 => ?_)
                · try dsimp only [Ty.T] at h9
                  try simp only [castL_self] at h9
                  try simp only [Int.toNat_natCast] at h9
                  try simp only [Int.toNat_zero] at h9
                  refine AWPD.seq fun K40 hK40 => ?_
                  -- region 29
                  refine AWPD.keep [] rfl ?_
                  refine AWPD.region tabOK rfl ?_
                  refine hK40 _ _ ?_
                  clear hK40
                  refine AWPD.ret (And.intro (.inl rfl) ?_)
                  -- result 3
                  refine RetD.one ?_
                  exact fitB rfl rfl
                · try dsimp only [Ty.T] at h9
                  try simp only [castL_self] at h9
                  try simp only [Int.toNat_natCast] at h9
                  try simp only [Int.toNat_zero] at h9
                  refine AWPD.skip ?_
                  refine hK38 _ _ ?_
                  clear hK38
                  refine AWPD.seq fun K41 hK41 => ?_
                  refine AWPD.seq fun K42 hK42 => ?_
                  -- region 30
                  refine AWPD.keep [2, 3, 4, 11, 17, 19] rfl ?_
                  refine AWPD.draw tabOK [] rfl (by kernel_rfl) ?_
                  repeat refine And.intro (by first | exact fun h => h | exact fun _ => rfl | omega | ((try dsimp only [Ty.T]); (try simp only [castL_self]); (try simp only [Int.toNat_natCast]); (try simp only [Int.toNat_zero]); (try simp only [true_and]); omega) | (intros; (try dsimp only [Ty.T]); (try simp only [castL_self]); (try simp only [Int.toNat_natCast]); (try simp only [Int.toNat_zero]); (try simp only [true_and]); omega) | ((try dsimp only [Ty.T, Ty.size]); (try simp only [castL_self, Int.toNat_natCast, Int.toNat_zero, true_and, List.length_append, List.length_set, List.length_cons, List.length_nil, Nat.zero_add, Nat.mul_one]); omega) | ((try dsimp only [Ty.T, Ty.size]); (try simp only [castL_self, Int.toNat_natCast, Int.toNat_zero, Int.toNat_one, true_and, List.length_append, List.length_set, List.length_drop, List.length_take, List.length_replicate, List.length_cons, List.length_nil, Nat.zero_add, Nat.mul_one]); omega) | decide | (intros; simp_all; done) | (intros; simp_all; omega)) ?_
                  refine hK42 _ _ ?_
                  clear hK42
                  first | refine AWPD.condP rfl (fun h10 => ?_) (fun h10 => ?_) | refine AWPD.condN rfl (fun h10 => ?_) (fun h10 => ?_) | refine AWPD.condAP rfl (fun h10 => ?_) (fun h10 => ?_) | refine AWPD.condOP rfl (fun h10 => ?_) (fun h10 => ?_) | refine AWPD.condONN rfl (fun h10 => ?_) (fun h10 => ?_) | refine AWPD.condOPN rfl (fun h10 => ?_) (fun h10 => ?_) | refine AWPD.condA rfl (fun h10 => ?_) (fun h10 => ?_) | refine AWPD.condO rfl (fun h10 => ?_) (fun h10 => ?_) | refine AWPD.cond rfl (fun h10 => ?_) (fun h10 => ?_)
                  · try dsimp only [Ty.T] at h10
                    try simp only [castL_self] at h10
                    try simp only [Int.toNat_natCast] at h10
                    try simp only [Int.toNat_zero] at h10
                    refine AWPD.exit ?_
                    exact tail30 _ rfl (.inl (.inr ⟨by omega, j, by omega, hv2.1, by omega⟩))
                  · try dsimp only [Ty.T] at h10
                    try simp only [castL_self] at h10
                    try simp only [Int.toNat_natCast] at h10
                    try simp only [Int.toNat_zero] at h10
                    refine AWPD.skip ?_
                    refine hK41 _ _ ?_
                    clear hK41
                    refine AWPD.seq fun K43 hK43 => ?_
                    -- region 31
                    refine AWPD.keep [2, 3, 4, 11, 17, 19] rfl ?_
                    refine AWPD.region tabOK rfl ?_
                    repeat refine And.intro (by first | exact fun h => h | exact fun _ => rfl | omega | ((try dsimp only [Ty.T]); (try simp only [castL_self]); (try simp only [Int.toNat_natCast]); (try simp only [Int.toNat_zero]); (try simp only [true_and]); omega) | (intros; (try dsimp only [Ty.T]); (try simp only [castL_self]); (try simp only [Int.toNat_natCast]); (try simp only [Int.toNat_zero]); (try simp only [true_and]); omega) | ((try dsimp only [Ty.T, Ty.size]); (try simp only [castL_self, Int.toNat_natCast, Int.toNat_zero, true_and, List.length_append, List.length_set, List.length_cons, List.length_nil, Nat.zero_add, Nat.mul_one]); omega) | ((try dsimp only [Ty.T, Ty.size]); (try simp only [castL_self, Int.toNat_natCast, Int.toNat_zero, Int.toNat_one, true_and, List.length_append, List.length_set, List.length_drop, List.length_take, List.length_replicate, List.length_cons, List.length_nil, Nat.zero_add, Nat.mul_one]); omega) | decide | (intros; simp_all; done) | (intros; simp_all; omega)) ?_
                    refine hK43 _ _ ?_
                    clear hK43
                    first | refine AWPD.condP rfl (fun h11 => ?_) (fun h11 => ?_) | refine AWPD.condN rfl (fun h11 => ?_) (fun h11 => ?_) | refine AWPD.condAP rfl (fun h11 => ?_) (fun h11 => ?_) | refine AWPD.condOP rfl (fun h11 => ?_) (fun h11 => ?_) | refine AWPD.condONN rfl (fun h11 => ?_) (fun h11 => ?_) | refine AWPD.condOPN rfl (fun h11 => ?_) (fun h11 => ?_) | refine AWPD.condA rfl (fun h11 => ?_) (fun h11 => ?_) | refine AWPD.condO rfl (fun h11 => ?_) (fun h11 => ?_) | refine AWPD.cond rfl (fun h11 => ?_) (fun h11 => ?_)
                    · try dsimp only [Ty.T] at h11
                      try simp only [castL_self] at h11
                      try simp only [Int.toNat_natCast] at h11
                      try simp only [Int.toNat_zero] at h11
                      refine AWPD.seq fun K44 hK44 => ?_
                      -- region 32
                      refine AWPD.keep [] rfl ?_
                      refine AWPD.region tabOK rfl ?_
                      refine hK44 _ _ ?_
                      clear hK44
                      refine AWPD.ret (And.intro (.inl rfl) ?_)
                      -- result 4
                      refine RetD.one ?_
                      exact fitB rfl rfl
                    · try dsimp only [Ty.T] at h11
                      try simp only [castL_self] at h11
                      try simp only [Int.toNat_natCast] at h11
                      try simp only [Int.toNat_zero] at h11
                      refine AWPD.skip ?_
                      refine hK37 _ _ ?_
                      clear hK37
                      -- region 27
                      refine AWPD.keep [2, 3, 4, 11, 17, 19] rfl ?_
                      refine AWPD.region tabOK rfl ?_
                      repeat refine And.intro (by first | exact fun h => h | exact fun _ => rfl | omega | ((try dsimp only [Ty.T]); (try simp only [castL_self]); (try simp only [Int.toNat_natCast]); (try simp only [Int.toNat_zero]); (try simp only [true_and]); omega) | (intros; (try dsimp only [Ty.T]); (try simp only [castL_self]); (try simp only [Int.toNat_natCast]); (try simp only [Int.toNat_zero]); (try simp only [true_and]); omega) | ((try dsimp only [Ty.T, Ty.size]); (try simp only [castL_self, Int.toNat_natCast, Int.toNat_zero, true_and, List.length_append, List.length_set, List.length_cons, List.length_nil, Nat.zero_add, Nat.mul_one]); omega) | ((try dsimp only [Ty.T, Ty.size]); (try simp only [castL_self, Int.toNat_natCast, Int.toNat_zero, Int.toNat_one, true_and, List.length_append, List.length_set, List.length_drop, List.length_take, List.length_replicate, List.length_cons, List.length_nil, Nat.zero_add, Nat.mul_one]); omega) | decide | (intros; simp_all; done) | (intros; simp_all; omega)) ?_
                      refine ⟨n2 - 1, j + 1, [], by omega, ⟨by omega, ⟨fun q hq => by
                              rcases Nat.lt_or_ge q j with h | h
                              · exact hv2.1 q h
                              · rw [show q = j by omega]; omega, .inr (by omega)⟩⟩, ⟨by decide, rfl⟩, trivial, ?_⟩
                      repeat' first | exact True.intro | exact rfl | exact ⟨rfl, rfl⟩ | refine And.intro ?_ ?_
              · try dsimp only [Ty.T] at h8
                try simp only [castL_self] at h8
                try simp only [Int.toNat_natCast] at h8
                try simp only [Int.toNat_zero] at h8
                simp only [Bool.cond_true_left, Bool.cond_false_right, Bool.cond_true_right, Bool.cond_false_left, Bool.or_eq_true, Bool.and_eq_true, decide_eq_true_eq, Bool.or_eq_false_iff, Bool.and_eq_false_iff, decide_eq_false_iff_not, Bool.not_eq_true', Bool.not_eq_false', Bool.not_eq_eq_eq_not, Bool.not_true, Bool.not_false] at h8
                refine AWPD.exit ?_
                exact tail30 _ rfl (by by_cases hs : w.length < L.length; exact .inl (.inl hs); exact .inr ⟨by omega, by omega⟩)
end Go.Proofs.Ytndoigkmdcgjfaa
