/-
  WALKS of the document's answers on machines: what is wrong with one, with acts, a policy, a part; a run; what is reached. Laid by a program of mine out of the operations, with the loops and results told by hand.
-/
import Derived.Test.YtndoigkmdcgjfaaDoorQwRe
import Derived.Test.YtndoigkmdcgjfaaDoorQwEr
namespace Go.Proofs.YtndoigkmdcgjfaaDoor
open Go Go.Qw
set_option maxRecDepth 10000
set_option linter.unusedSimpArgs false
set_option linter.unusedVariables false
set_option linter.unusedSectionVars false


theorem add_or {s n : Nat} (h : s.testBit n = false) : s + 2 ^ n = s ||| 2 ^ n := by
  have hp := Nat.two_pow_pos n
  have hr : s % 2 ^ n < 2 ^ n := Nat.mod_lt _ hp
  have hs : s = 2 ^ (n + 1) * (s / 2 ^ (n + 1)) + s % 2 ^ n := by
    have h1 := Nat.div_add_mod s (2 ^ (n + 1))
    have h2 : s % 2 ^ (n + 1) = s % 2 ^ n := by
      rw [Nat.testBit_eq_decide_div_mod_eq] at h
      have h3 : s / 2 ^ n % 2 = 0 := by
        have := of_decide_eq_false h
        omega
      rw [Nat.pow_succ, Nat.mod_mul, h3]
      omega
    omega
  have hlt : s % 2 ^ n ||| 2 ^ n < 2 ^ (n + 1) := Nat.or_lt_two_pow (by rw [Nat.pow_succ]; omega) (Nat.pow_lt_pow_right (by decide) (by omega))
  have e1 : s + 2 ^ n = 2 ^ (n + 1) * (s / 2 ^ (n + 1)) + (s % 2 ^ n ||| 2 ^ n) := by
    rw [Nat.or_two_pow_eq_add_of_lt hr]
    omega
  refine Nat.eq_of_testBit_eq fun j => ?_
  have e2 : s.testBit j = if j < n + 1 then (s % 2 ^ n).testBit j else (s / 2 ^ (n + 1)).testBit (j - (n + 1)) := by
    conv => lhs; rw [hs]
    exact Nat.testBit_two_pow_mul_add _ (show s % 2 ^ n < 2 ^ (n + 1) by rw [Nat.pow_succ]; omega) _
  rw [e1, Nat.testBit_two_pow_mul_add _ hlt, Nat.testBit_or s, e2]
  split
  · rw [Nat.testBit_or]
  · rw [Nat.testBit_two_pow]
    have : ¬n = j := by omega
    simp [this]

theorem in3_fn (n lo hi : Int) : LiftsD Tryd.prog 68 [.i n, .i lo, .i hi] (.b (decide (lo ≤ n ∧ n ≤ hi))) := by
  refine LiftsD.of_body 15 [.tmp 6] Tryd.func68 rfl Tryd.ntmps68 (by kernel_rfl) rfl rfl fun w0 X0 => ?_
  refine AWPD.seq fun K1 hK1 => ?_
  -- region 0
  refine AWPD.keep [0, 1, 2] rfl ?_
  refine AWPD.region tabOK rfl ?_
  refine hK1 _ _ ?_
  clear hK1
  refine AWPD.seq fun K2 hK2 => ?_
  -- region 1
  refine AWPD.keep [0, 1, 2] rfl ?_
  refine AWPD.region tabOK rfl ?_
  repeat refine And.intro (by first | exact fun h => h | exact fun _ => rfl | (intro h; rw [h]; rfl) | omega | (intros; (try dsimp only [Ty.T, Ty.size]); (try simp only [castL_self, Int.toNat_natCast, Int.toNat_zero, Int.toNat_one, true_and, List.length_append, List.length_set, List.length_drop, List.length_take, List.length_replicate, List.length_cons, List.length_nil, Nat.zero_add, Nat.mul_one]); omega) | decide | (intros; simp_all; done) | (intros; simp_all; omega)) ?_
  refine hK2 _ _ ?_
  clear hK2
  refine AWPD.ret (And.intro (.inl rfl) ?_)
  -- result 0
  refine RetD.one ?_
  refine fitB rfl ?_
  show (bif decide (lo ≤ n) then decide (n ≤ hi) else false) = decide (lo ≤ n ∧ n ≤ hi)
  simp
theorem rmask_fn (s n : Int) (hn : 0 ≤ n ∧ n ≤ 61) : LiftsD Tryd.prog 71 [.i s, .i n] (.b (maskB s n)) := by
  have hp := powN_le (k := n.toNat) (by omega)
  refine LiftsD.of_body 13 [.tmp 4] Tryd.func71 rfl Tryd.ntmps71 (by kernel_rfl) rfl rfl fun w0 X0 => ?_
  refine AWPD.seq fun K1 hK1 => ?_
  -- region 0
  refine AWPD.keep [0, 1] rfl ?_
  refine AWPD.region tabOK rfl ?_
  refine hK1 _ _ ?_
  clear hK1
  refine AWPD.seq fun K2 hK2 => ?_
  -- region 1
  refine AWPD.keep [0, 1] rfl ?_
  refine AWPD.region tabOK rfl ?_
  repeat refine And.intro (by first | exact fun h => h | exact fun _ => rfl | (intro h; rw [h]; rfl) | omega | (intros; (try dsimp only [Ty.T, Ty.size]); (try simp only [castL_self, Int.toNat_natCast, Int.toNat_zero, Int.toNat_one, true_and, List.length_append, List.length_set, List.length_drop, List.length_take, List.length_replicate, List.length_cons, List.length_nil, Nat.zero_add, Nat.mul_one]); omega) | decide | (intros; simp_all; done) | (intros; simp_all; omega)) ?_
  refine Exists.intro _ (Exists.intro _ (And.intro (fun hg => StepD.call (pow2_fn _ (by omega)) rfl rfl rfl) (And.intro (fun hf => rfl) (And.intro rfl (And.intro trivial ?_)))))
  repeat refine And.intro (by first | exact fun h => h | exact fun _ => rfl | (intro h; rw [h]; rfl) | omega | (intros; (try dsimp only [Ty.T, Ty.size]); (try simp only [castL_self, Int.toNat_natCast, Int.toNat_zero, Int.toNat_one, true_and, List.length_append, List.length_set, List.length_drop, List.length_take, List.length_replicate, List.length_cons, List.length_nil, Nat.zero_add, Nat.mul_one]); omega) | decide | (intros; simp_all; done) | (intros; simp_all; omega)) ?_
  refine hK2 _ _ ?_
  clear hK2
  refine AWPD.ret (And.intro (.inl rfl) ?_)
  -- result 0
  refine RetD.one ?_
  refine fitB rfl ?_
  show (bif decide (0 ≤ s) then decide (s < ((2 ^ n.toNat : Nat) : Int)) else false) = maskB s n
  simp [maskB]
theorem with_fn (s n : Int) (hs : 0 ≤ s ∧ s ≤ 2305843009213693952) (hn : 0 ≤ n ∧ n ≤ 60) : LiftsD Tryd.prog 72 [.i s, .i n] (.i ((s.toNat ||| 2 ^ n.toNat : Nat) : Int)) := by
  have hp := powN_le (k := n.toNat) (by omega)
  refine LiftsD.of_body 13 [.tmp 4] Tryd.func72 rfl Tryd.ntmps72 (by kernel_rfl) rfl rfl fun w0 X0 => ?_
  refine AWPD.seq fun K1 hK1 => ?_
  -- region 0
  refine AWPD.keep [0, 1] rfl ?_
  refine AWPD.region tabOK rfl ?_
  refine hK1 _ _ ?_
  clear hK1
  refine AWPD.seq fun K2 hK2 => ?_
  refine AWPD.seq fun K3 hK3 => ?_
  -- region 1
  refine AWPD.keep [0, 1] rfl ?_
  refine AWPD.region tabOK rfl ?_
  refine Exists.intro _ (Exists.intro _ (And.intro (StepD.call (bit_fn _ _ (by omega) (by omega)) rfl rfl rfl) (And.intro rfl (And.intro trivial ?_))))
  refine hK3 _ _ ?_
  clear hK3
  first | refine AWPD.cond rfl (fun h0 => ?_) (fun h0 => ?_)
  · try dsimp only [Ty.T] at h0
    try simp only [castL_self] at h0
    try simp only [Int.toNat_natCast] at h0
    try simp only [Int.toNat_zero] at h0
    refine AWPD.seq fun K4 hK4 => ?_
    -- region 2
    refine AWPD.keep [0] rfl ?_
    refine AWPD.region tabOK rfl ?_
    refine hK4 _ _ ?_
    clear hK4
    refine AWPD.ret (And.intro (.inl rfl) ?_)
    -- result 0
    refine RetD.one ?_
    exact fitI rfl (by
      have : s.toNat ||| 2 ^ n.toNat = s.toNat := Nat.eq_of_testBit_eq fun j => by
        rw [Nat.testBit_or, Nat.testBit_two_pow]
        by_cases hj : n.toNat = j
        · subst hj; rw [h0]; rfl
        · simp [hj]
      rw [this]; omega)
  · try dsimp only [Ty.T] at h0
    try simp only [castL_self] at h0
    try simp only [Int.toNat_natCast] at h0
    try simp only [Int.toNat_zero] at h0
    refine AWPD.skip ?_
    refine hK2 _ _ ?_
    clear hK2
    refine AWPD.seq fun K5 hK5 => ?_
    -- region 3
    refine AWPD.keep [0, 1] rfl ?_
    refine AWPD.region tabOK rfl ?_
    refine Exists.intro _ (Exists.intro _ (And.intro (StepD.call (pow2_fn _ (by omega)) rfl rfl rfl) (And.intro rfl (And.intro trivial ?_))))
    repeat refine And.intro (by first | exact fun h => h | exact fun _ => rfl | (intro h; rw [h]; rfl) | omega | (intros; (try dsimp only [Ty.T, Ty.size]); (try simp only [castL_self, Int.toNat_natCast, Int.toNat_zero, Int.toNat_one, true_and, List.length_append, List.length_set, List.length_drop, List.length_take, List.length_replicate, List.length_cons, List.length_nil, Nat.zero_add, Nat.mul_one]); omega) | decide | (intros; simp_all; done) | (intros; simp_all; omega)) ?_
    refine hK5 _ _ ?_
    clear hK5
    refine AWPD.ret (And.intro (.inl rfl) ?_)
    -- result 1
    refine RetD.one ?_
    exact fitI rfl (by rw [← add_or h0]; show s + ((powN n.toNat : Nat) : Int) = _; unfold powN; omega)
theorem rmach_fn (P : Int) (A : List Int) (N S : List (List Int)) : LiftsD Tryd.prog 28 [.agg [.i P, .sl .int A, .sl (.sl .int) N, .sl (.sl .int) S]] (.i (machE P A N S)) := by
  refine LiftsD.of_body 108 [.tmp 2] Tryd.func28 rfl Tryd.ntmps28 (by kernel_rfl) rfl rfl fun w0 X0 => ?_
  refine AWPD.seq fun K1 hK1 => ?_
  -- region 0
  refine AWPD.keep [0] rfl ?_
  refine AWPD.region tabOK rfl ?_
  refine hK1 _ _ ?_
  clear hK1
  refine AWPD.seq fun K2 hK2 => ?_
  refine AWPD.seq fun K3 hK3 => ?_
  -- region 1
  refine AWPD.keep [1] rfl ?_
  refine AWPD.region tabOK rfl ?_
  repeat refine And.intro (by first | exact fun h => h | exact fun _ => rfl | (intro h; rw [h]; rfl) | omega | (intros; (try dsimp only [Ty.T, Ty.size]); (try simp only [castL_self, Int.toNat_natCast, Int.toNat_zero, Int.toNat_one, true_and, List.length_append, List.length_set, List.length_drop, List.length_take, List.length_replicate, List.length_cons, List.length_nil, Nat.zero_add, Nat.mul_one]); omega) | decide | (intros; simp_all; done) | (intros; simp_all; omega)) ?_
  refine Exists.intro _ (Exists.intro _ (And.intro (StepD.call (in3_fn _ _ _) rfl rfl rfl) (And.intro rfl (And.intro trivial ?_))))
  refine hK3 _ _ ?_
  clear hK3
  first | refine AWPD.condP rfl (fun h0 => ?_) (fun h0 => ?_) | refine AWPD.condN rfl (fun h0 => ?_) (fun h0 => ?_) | refine AWPD.condAP rfl (fun h0 => ?_) (fun h0 => ?_) | refine AWPD.condOP rfl (fun h0 => ?_) (fun h0 => ?_) | refine AWPD.condONN rfl (fun h0 => ?_) (fun h0 => ?_) | refine AWPD.condOPN rfl (fun h0 => ?_) (fun h0 => ?_) | refine AWPD.condA rfl (fun h0 => ?_) (fun h0 => ?_) | refine AWPD.condO rfl (fun h0 => ?_) (fun h0 => ?_) | refine AWPD.cond rfl (fun h0 => ?_) (fun h0 => ?_)
  · try dsimp only [Ty.T] at h0
    try simp only [castL_self] at h0
    try simp only [Int.toNat_natCast] at h0
    try simp only [Int.toNat_zero] at h0
    refine AWPD.seq fun K4 hK4 => ?_
    -- region 2
    refine AWPD.keep [] rfl ?_
    refine AWPD.region tabOK rfl ?_
    refine hK4 _ _ ?_
    clear hK4
    refine AWPD.ret (And.intro (.inl rfl) ?_)
    -- result 0
    refine RetD.one ?_
    exact fitI rfl (by unfold machE; rw [if_pos h0])
  · try dsimp only [Ty.T] at h0
    try simp only [castL_self] at h0
    try simp only [Int.toNat_natCast] at h0
    try simp only [Int.toNat_zero] at h0
    have c0 : 1 ≤ P ∧ P ≤ 5 := h0
    refine AWPD.skip ?_
    refine hK2 _ _ ?_
    clear hK2
    refine AWPD.seq fun K5 hK5 => ?_
    -- region 3
    refine AWPD.keep [1] rfl ?_
    refine AWPD.region tabOK rfl ?_
    repeat refine And.intro (by first | exact fun h => h | exact fun _ => rfl | (intro h; rw [h]; rfl) | omega | (intros; (try dsimp only [Ty.T, Ty.size]); (try simp only [castL_self, Int.toNat_natCast, Int.toNat_zero, Int.toNat_one, true_and, List.length_append, List.length_set, List.length_drop, List.length_take, List.length_replicate, List.length_cons, List.length_nil, Nat.zero_add, Nat.mul_one]); omega) | decide | (intros; simp_all; done) | (intros; simp_all; omega)) ?_
    refine hK5 _ _ ?_
    clear hK5
    refine AWPD.seq fun K6 hK6 => ?_
    refine AWPD.seq fun K7 hK7 => ?_
    -- region 4
    refine AWPD.keep [1, 3] rfl ?_
    refine AWPD.region tabOK rfl ?_
    refine hK7 _ _ ?_
    clear hK7
    first | refine AWPD.condP rfl (fun h1 => ?_) (fun h1 => ?_) | refine AWPD.condN rfl (fun h1 => ?_) (fun h1 => ?_) | refine AWPD.condAP rfl (fun h1 => ?_) (fun h1 => ?_) | refine AWPD.condOP rfl (fun h1 => ?_) (fun h1 => ?_) | refine AWPD.condONN rfl (fun h1 => ?_) (fun h1 => ?_) | refine AWPD.condOPN rfl (fun h1 => ?_) (fun h1 => ?_) | refine AWPD.condA rfl (fun h1 => ?_) (fun h1 => ?_) | refine AWPD.condO rfl (fun h1 => ?_) (fun h1 => ?_) | refine AWPD.cond rfl (fun h1 => ?_) (fun h1 => ?_)
    · try dsimp only [Ty.T] at h1
      try simp only [castL_self] at h1
      try simp only [Int.toNat_natCast] at h1
      try simp only [Int.toNat_zero] at h1
      refine AWPD.seq fun K8 hK8 => ?_
      -- region 5
      refine AWPD.keep [] rfl ?_
      refine AWPD.region tabOK rfl ?_
      refine hK8 _ _ ?_
      clear hK8
      refine AWPD.ret (And.intro (.inl rfl) ?_)
      -- result 1
      refine RetD.one ?_
      exact fitI rfl (by unfold machE; rw [if_neg (fun h => h c0), if_pos (by omega)])
    · try dsimp only [Ty.T] at h1
      try simp only [castL_self] at h1
      try simp only [Int.toNat_natCast] at h1
      try simp only [Int.toNat_zero] at h1
      refine AWPD.skip ?_
      refine hK6 _ _ ?_
      clear hK6
      refine AWPD.seq fun K9 hK9 => ?_
      refine AWPD.seq fun K10 hK10 => ?_
      -- region 6
      refine AWPD.keep [1, 3] rfl ?_
      refine AWPD.region tabOK rfl ?_
      repeat refine And.intro (by first | exact fun h => h | exact fun _ => rfl | (intro h; rw [h]; rfl) | omega | (intros; (try dsimp only [Ty.T, Ty.size]); (try simp only [castL_self, Int.toNat_natCast, Int.toNat_zero, Int.toNat_one, true_and, List.length_append, List.length_set, List.length_drop, List.length_take, List.length_replicate, List.length_cons, List.length_nil, Nat.zero_add, Nat.mul_one]); omega) | decide | (intros; simp_all; done) | (intros; simp_all; omega)) ?_
      refine hK10 _ _ ?_
      clear hK10
      first | refine AWPD.condP rfl (fun h2 => ?_) (fun h2 => ?_) | refine AWPD.condN rfl (fun h2 => ?_) (fun h2 => ?_) | refine AWPD.condAP rfl (fun h2 => ?_) (fun h2 => ?_) | refine AWPD.condOP rfl (fun h2 => ?_) (fun h2 => ?_) | refine AWPD.condONN rfl (fun h2 => ?_) (fun h2 => ?_) | refine AWPD.condOPN rfl (fun h2 => ?_) (fun h2 => ?_) | refine AWPD.condA rfl (fun h2 => ?_) (fun h2 => ?_) | refine AWPD.condO rfl (fun h2 => ?_) (fun h2 => ?_) | refine AWPD.cond rfl (fun h2 => ?_) (fun h2 => ?_)
      · try dsimp only [Ty.T] at h2
        try simp only [castL_self] at h2
        try simp only [Int.toNat_natCast] at h2
        try simp only [Int.toNat_zero] at h2
        refine AWPD.seq fun K11 hK11 => ?_
        -- region 7
        refine AWPD.keep [] rfl ?_
        refine AWPD.region tabOK rfl ?_
        refine hK11 _ _ ?_
        clear hK11
        refine AWPD.ret (And.intro (.inl rfl) ?_)
        -- result 2
        refine RetD.one ?_
        exact fitI rfl (by unfold machE; rw [if_neg (fun h => h c0), if_neg (by omega), if_pos (by omega)])
      · try dsimp only [Ty.T] at h2
        try simp only [castL_self] at h2
        try simp only [Int.toNat_natCast] at h2
        try simp only [Int.toNat_zero] at h2
        refine AWPD.skip ?_
        refine hK9 _ _ ?_
        clear hK9
        refine AWPD.seq fun K12 hK12 => ?_
        refine AWPD.seq fun K13 hK13 => ?_
        -- region 8
        refine AWPD.keep [1, 3] rfl ?_
        refine AWPD.region tabOK rfl ?_
        repeat refine And.intro (by first | exact fun h => h | exact fun _ => rfl | (intro h; rw [h]; rfl) | omega | (intros; (try dsimp only [Ty.T, Ty.size]); (try simp only [castL_self, Int.toNat_natCast, Int.toNat_zero, Int.toNat_one, true_and, List.length_append, List.length_set, List.length_drop, List.length_take, List.length_replicate, List.length_cons, List.length_nil, Nat.zero_add, Nat.mul_one]); omega) | decide | (intros; simp_all; done) | (intros; simp_all; omega)) ?_
        refine hK13 _ _ ?_
        clear hK13
        first | refine AWPD.condP rfl (fun h3 => ?_) (fun h3 => ?_) | refine AWPD.condN rfl (fun h3 => ?_) (fun h3 => ?_) | refine AWPD.condAP rfl (fun h3 => ?_) (fun h3 => ?_) | refine AWPD.condOP rfl (fun h3 => ?_) (fun h3 => ?_) | refine AWPD.condONN rfl (fun h3 => ?_) (fun h3 => ?_) | refine AWPD.condOPN rfl (fun h3 => ?_) (fun h3 => ?_) | refine AWPD.condA rfl (fun h3 => ?_) (fun h3 => ?_) | refine AWPD.condO rfl (fun h3 => ?_) (fun h3 => ?_) | refine AWPD.cond rfl (fun h3 => ?_) (fun h3 => ?_)
        · try dsimp only [Ty.T] at h3
          try simp only [castL_self] at h3
          try simp only [Int.toNat_natCast] at h3
          try simp only [Int.toNat_zero] at h3
          refine AWPD.seq fun K14 hK14 => ?_
          -- region 9
          refine AWPD.keep [] rfl ?_
          refine AWPD.region tabOK rfl ?_
          refine hK14 _ _ ?_
          clear hK14
          refine AWPD.ret (And.intro (.inl rfl) ?_)
          -- result 3
          refine RetD.one ?_
          exact fitI rfl (by unfold machE; rw [if_neg (fun h => h c0), if_neg (by omega), if_neg (by omega), if_pos (by omega)])
        · try dsimp only [Ty.T] at h3
          try simp only [castL_self] at h3
          try simp only [Int.toNat_natCast] at h3
          try simp only [Int.toNat_zero] at h3
          refine AWPD.skip ?_
          refine hK12 _ _ ?_
          clear hK12
          refine AWPD.seq fun K15 hK15 => ?_
          refine AWPD.seq fun K16 hK16 => ?_
          -- region 10
          refine AWPD.keep [1, 3] rfl ?_
          refine AWPD.region tabOK rfl ?_
          refine hK16 _ _ ?_
          clear hK16
          refine AWPD.block ?_
          -- LOOP 0 live [1, 3, 4] changed [4]
          refine AWPD.loopK (σ := Nat) [1, 3] (fun i base => (4, .i (i : Int)) :: base) (fun _ => []) (fun n i => n + i = A.length ∧ ∀ a, a < i → 0 ≤ A.getD a 0 ∧ A.getD a 0 ≤ P - 1) (A.length) 0 [] rfl rfl (⟨by omega, by intro a ha; omega⟩) (by decide) trivial (by repeat' first | exact True.intro | exact rfl | exact ⟨rfl, rfl⟩ | refine And.intro ?_ ?_) fun n0 i hI0 => ?_
          obtain ⟨hn0, hv0⟩ := hI0
          refine AWPD.seq fun K17 hK17 => ?_
          refine AWPD.seq fun K18 hK18 => ?_
          -- region 11
          refine AWPD.keep [1, 3, 4] rfl ?_
          refine AWPD.region tabOK rfl ?_
          repeat refine And.intro (by first | exact fun h => h | exact fun _ => rfl | (intro h; rw [h]; rfl) | omega | (intros; (try dsimp only [Ty.T, Ty.size]); (try simp only [castL_self, Int.toNat_natCast, Int.toNat_zero, Int.toNat_one, true_and, List.length_append, List.length_set, List.length_drop, List.length_take, List.length_replicate, List.length_cons, List.length_nil, Nat.zero_add, Nat.mul_one]); omega) | decide | (intros; simp_all; done) | (intros; simp_all; omega)) ?_
          refine hK18 _ _ ?_
          clear hK18
          first | refine AWPD.condP rfl (fun h4 => ?_) (fun h4 => ?_) | refine AWPD.condN rfl (fun h4 => ?_) (fun h4 => ?_) | refine AWPD.condAP rfl (fun h4 => ?_) (fun h4 => ?_) | refine AWPD.condOP rfl (fun h4 => ?_) (fun h4 => ?_) | refine AWPD.condONN rfl (fun h4 => ?_) (fun h4 => ?_) | refine AWPD.condOPN rfl (fun h4 => ?_) (fun h4 => ?_) | refine AWPD.condA rfl (fun h4 => ?_) (fun h4 => ?_) | refine AWPD.condO rfl (fun h4 => ?_) (fun h4 => ?_) | refine AWPD.cond rfl (fun h4 => ?_) (fun h4 => ?_)
          · try dsimp only [Ty.T] at h4
            try simp only [castL_self] at h4
            try simp only [Int.toNat_natCast] at h4
            try simp only [Int.toNat_zero] at h4
            refine AWPD.skip ?_
            refine hK17 _ _ ?_
            clear hK17
            refine AWPD.seq fun K19 hK19 => ?_
            refine AWPD.block ?_
            refine AWPD.seq fun K20 hK20 => ?_
            -- region 13
            refine AWPD.keep [1, 3, 4] rfl ?_
            refine AWPD.draw tabOK [] rfl (by kernel_rfl) ?_
            repeat refine And.intro (by first | exact fun h => h | exact fun _ => rfl | (intro h; rw [h]; rfl) | omega | (intros; (try dsimp only [Ty.T, Ty.size]); (try simp only [castL_self, Int.toNat_natCast, Int.toNat_zero, Int.toNat_one, true_and, List.length_append, List.length_set, List.length_drop, List.length_take, List.length_replicate, List.length_cons, List.length_nil, Nat.zero_add, Nat.mul_one]); omega) | decide | (intros; simp_all; done) | (intros; simp_all; omega)) ?_
            refine Exists.intro _ (Exists.intro _ (And.intro (StepD.call (in3_fn _ _ _) rfl rfl rfl) (And.intro rfl (And.intro rfl ?_))))
            refine hK20 _ _ ?_
            clear hK20
            first | refine AWPD.condP rfl (fun h5 => ?_) (fun h5 => ?_) | refine AWPD.condN rfl (fun h5 => ?_) (fun h5 => ?_) | refine AWPD.condAP rfl (fun h5 => ?_) (fun h5 => ?_) | refine AWPD.condOP rfl (fun h5 => ?_) (fun h5 => ?_) | refine AWPD.condONN rfl (fun h5 => ?_) (fun h5 => ?_) | refine AWPD.condOPN rfl (fun h5 => ?_) (fun h5 => ?_) | refine AWPD.condA rfl (fun h5 => ?_) (fun h5 => ?_) | refine AWPD.condO rfl (fun h5 => ?_) (fun h5 => ?_) | refine AWPD.cond rfl (fun h5 => ?_) (fun h5 => ?_)
            · try dsimp only [Ty.T] at h5
              try simp only [castL_self] at h5
              try simp only [Int.toNat_natCast] at h5
              try simp only [Int.toNat_zero] at h5
              refine AWPD.seq fun K21 hK21 => ?_
              -- region 14
              refine AWPD.keep [] rfl ?_
              refine AWPD.region tabOK rfl ?_
              refine hK21 _ _ ?_
              clear hK21
              refine AWPD.ret (And.intro (.inl rfl) ?_)
              -- result 4
              refine RetD.one ?_
              exact fitI rfl (by unfold machE; rw [if_neg (fun h => h c0), if_neg (by omega), if_neg (by omega), if_neg (by omega), if_pos (inAll_bad (a := i) (by omega) h5)])
            · try dsimp only [Ty.T] at h5
              try simp only [castL_self] at h5
              try simp only [Int.toNat_natCast] at h5
              try simp only [Int.toNat_zero] at h5
              refine AWPD.skip ?_
              refine hK19 _ _ ?_
              clear hK19
              -- region 12
              refine AWPD.keep [1, 3, 4] rfl ?_
              refine AWPD.region tabOK rfl ?_
              repeat refine And.intro (by first | exact fun h => h | exact fun _ => rfl | (intro h; rw [h]; rfl) | omega | (intros; (try dsimp only [Ty.T, Ty.size]); (try simp only [castL_self, Int.toNat_natCast, Int.toNat_zero, Int.toNat_one, true_and, List.length_append, List.length_set, List.length_drop, List.length_take, List.length_replicate, List.length_cons, List.length_nil, Nat.zero_add, Nat.mul_one]); omega) | decide | (intros; simp_all; done) | (intros; simp_all; omega)) ?_
              refine ⟨n0 - 1, i + 1, [], by omega, ⟨by omega, inAll_snoc hv0 h5⟩, ⟨by decide, rfl⟩, trivial, ?_⟩
              repeat' first | exact True.intro | exact rfl | exact ⟨rfl, rfl⟩ | refine And.intro ?_ ?_
          · try dsimp only [Ty.T] at h4
            try simp only [castL_self] at h4
            try simp only [Int.toNat_natCast] at h4
            try simp only [Int.toNat_zero] at h4
            refine AWPD.exit ?_
            refine hK15 _ _ ?_
            clear hK15
            refine AWPD.seq fun K22 hK22 => ?_
            refine AWPD.seq fun K23 hK23 => ?_
            -- region 15
            refine AWPD.keep [1, 3] rfl ?_
            refine AWPD.region tabOK rfl ?_
            refine hK23 _ _ ?_
            clear hK23
            refine AWPD.block ?_
            -- LOOP 1 live [1, 3, 5] changed [5]
            have c4 : inAll A (P - 1) := fun a ha => hv0 a (by omega)
            have hm := machE_st (N := N) (S := S) c0 (by omega) (by omega) (by omega) c4
            refine AWPD.loopK (σ := Nat) [1, 3] (fun u base => (5, .i (u : Int)) :: base) (fun _ => []) (fun n u => n + u = N.length ∧ ∀ s, s < u → stE P A N S s = 0) (N.length) 0 [] rfl rfl (⟨by omega, by intro s hs; omega⟩) (by decide) trivial (by repeat' first | exact True.intro | exact rfl | exact ⟨rfl, rfl⟩ | refine And.intro ?_ ?_) fun n1 u hI1 => ?_
            obtain ⟨hn1, hv1⟩ := hI1
            refine AWPD.seq fun K24 hK24 => ?_
            refine AWPD.seq fun K25 hK25 => ?_
            -- region 16
            refine AWPD.keep [1, 3, 5] rfl ?_
            refine AWPD.region tabOK rfl ?_
            refine hK25 _ _ ?_
            clear hK25
            first | refine AWPD.condP rfl (fun h6 => ?_) (fun h6 => ?_) | refine AWPD.condN rfl (fun h6 => ?_) (fun h6 => ?_) | refine AWPD.condAP rfl (fun h6 => ?_) (fun h6 => ?_) | refine AWPD.condOP rfl (fun h6 => ?_) (fun h6 => ?_) | refine AWPD.condONN rfl (fun h6 => ?_) (fun h6 => ?_) | refine AWPD.condOPN rfl (fun h6 => ?_) (fun h6 => ?_) | refine AWPD.condA rfl (fun h6 => ?_) (fun h6 => ?_) | refine AWPD.condO rfl (fun h6 => ?_) (fun h6 => ?_) | refine AWPD.cond rfl (fun h6 => ?_) (fun h6 => ?_)
            · try dsimp only [Ty.T] at h6
              try simp only [castL_self] at h6
              try simp only [Int.toNat_natCast] at h6
              try simp only [Int.toNat_zero] at h6
              have hs : (u : Nat) < N.length := by omega
              refine AWPD.skip ?_
              refine hK24 _ _ ?_
              clear hK24
              refine AWPD.seq fun K26 hK26 => ?_
              refine AWPD.block ?_
              refine AWPD.seq fun K27 hK27 => ?_
              refine AWPD.seq fun K28 hK28 => ?_
              -- region 18
              refine AWPD.keep [1, 3, 5] rfl ?_
              refine AWPD.draw tabOK [] rfl (by kernel_rfl) ?_
              repeat refine And.intro (by first | exact fun h => h | exact fun _ => rfl | (intro h; rw [h]; rfl) | omega | (intros; (try dsimp only [Ty.T, Ty.size]); (try simp only [castL_self, Int.toNat_natCast, Int.toNat_zero, Int.toNat_one, true_and, List.length_append, List.length_set, List.length_drop, List.length_take, List.length_replicate, List.length_cons, List.length_nil, Nat.zero_add, Nat.mul_one]); omega) | decide | (intros; simp_all; done) | (intros; simp_all; omega)) ?_
              refine hK28 _ _ ?_
              clear hK28
              first | refine AWPD.condP rfl (fun h7 => ?_) (fun h7 => ?_) | refine AWPD.condN rfl (fun h7 => ?_) (fun h7 => ?_) | refine AWPD.condAP rfl (fun h7 => ?_) (fun h7 => ?_) | refine AWPD.condOP rfl (fun h7 => ?_) (fun h7 => ?_) | refine AWPD.condONN rfl (fun h7 => ?_) (fun h7 => ?_) | refine AWPD.condOPN rfl (fun h7 => ?_) (fun h7 => ?_) | refine AWPD.condA rfl (fun h7 => ?_) (fun h7 => ?_) | refine AWPD.condO rfl (fun h7 => ?_) (fun h7 => ?_) | refine AWPD.cond rfl (fun h7 => ?_) (fun h7 => ?_)
              · try dsimp only [Ty.T] at h7
                try simp only [castL_self] at h7
                try simp only [Int.toNat_natCast] at h7
                try simp only [Int.toNat_zero] at h7
                refine AWPD.seq fun K29 hK29 => ?_
                -- region 19
                refine AWPD.keep [] rfl ?_
                refine AWPD.region tabOK rfl ?_
                refine hK29 _ _ ?_
                clear hK29
                refine AWPD.ret (And.intro (.inl rfl) ?_)
                -- result 5
                refine RetD.one ?_
                have he : stE P A N S u = 3 := by unfold stE; rw [if_pos (by omega)]
                exact fitI rfl (by rw [hm, fE_stop hv1 (by rw [he]; decide) hs, he])
              · try dsimp only [Ty.T] at h7
                try simp only [castL_self] at h7
                try simp only [Int.toNat_natCast] at h7
                try simp only [Int.toNat_zero] at h7
                have c7 : (N.getD u []).length = A.length ∧ ((S.getD u []).length : Int) = P := by omega
                refine AWPD.skip ?_
                refine hK27 _ _ ?_
                clear hK27
                refine AWPD.seq fun K30 hK30 => ?_
                refine AWPD.seq fun K31 hK31 => ?_
                -- region 20
                refine AWPD.keep [1, 3, 5] rfl ?_
                refine AWPD.region tabOK rfl ?_
                refine hK31 _ _ ?_
                clear hK31
                refine AWPD.block ?_
                -- LOOP 2 live [1, 3, 5, 6] changed [6]
                refine AWPD.loopK (σ := Nat) [1, 3, 5] (fun i base => (6, .i (i : Int)) :: base) (fun _ => []) (fun n i => n + i = A.length ∧ ∀ a, a < i → 0 ≤ (N.getD u []).getD a 0 ∧ (N.getD u []).getD a 0 ≤ (N.length : Int) - 1) (A.length) 0 [] rfl rfl (⟨by omega, by intro a ha; omega⟩) (by decide) trivial (by repeat' first | exact True.intro | exact rfl | exact ⟨rfl, rfl⟩ | refine And.intro ?_ ?_) fun n2 i hI2 => ?_
                obtain ⟨hn2, hv2⟩ := hI2
                refine AWPD.seq fun K32 hK32 => ?_
                refine AWPD.seq fun K33 hK33 => ?_
                -- region 21
                refine AWPD.keep [1, 3, 5, 6] rfl ?_
                refine AWPD.region tabOK rfl ?_
                repeat refine And.intro (by first | exact fun h => h | exact fun _ => rfl | (intro h; rw [h]; rfl) | omega | (intros; (try dsimp only [Ty.T, Ty.size]); (try simp only [castL_self, Int.toNat_natCast, Int.toNat_zero, Int.toNat_one, true_and, List.length_append, List.length_set, List.length_drop, List.length_take, List.length_replicate, List.length_cons, List.length_nil, Nat.zero_add, Nat.mul_one]); omega) | decide | (intros; simp_all; done) | (intros; simp_all; omega)) ?_
                refine hK33 _ _ ?_
                clear hK33
                first | refine AWPD.condP rfl (fun h8 => ?_) (fun h8 => ?_) | refine AWPD.condN rfl (fun h8 => ?_) (fun h8 => ?_) | refine AWPD.condAP rfl (fun h8 => ?_) (fun h8 => ?_) | refine AWPD.condOP rfl (fun h8 => ?_) (fun h8 => ?_) | refine AWPD.condONN rfl (fun h8 => ?_) (fun h8 => ?_) | refine AWPD.condOPN rfl (fun h8 => ?_) (fun h8 => ?_) | refine AWPD.condA rfl (fun h8 => ?_) (fun h8 => ?_) | refine AWPD.condO rfl (fun h8 => ?_) (fun h8 => ?_) | refine AWPD.cond rfl (fun h8 => ?_) (fun h8 => ?_)
                · try dsimp only [Ty.T] at h8
                  try simp only [castL_self] at h8
                  try simp only [Int.toNat_natCast] at h8
                  try simp only [Int.toNat_zero] at h8
                  refine AWPD.skip ?_
                  refine hK32 _ _ ?_
                  clear hK32
                  refine AWPD.seq fun K34 hK34 => ?_
                  refine AWPD.block ?_
                  refine AWPD.seq fun K35 hK35 => ?_
                  -- region 23
                  refine AWPD.keep [1, 3, 5, 6] rfl ?_
                  refine AWPD.region tabOK rfl ?_
                  repeat refine And.intro (by first | exact fun h => h | exact fun _ => rfl | (intro h; rw [h]; rfl) | omega | (intros; (try dsimp only [Ty.T, Ty.size]); (try simp only [castL_self, Int.toNat_natCast, Int.toNat_zero, Int.toNat_one, true_and, List.length_append, List.length_set, List.length_drop, List.length_take, List.length_replicate, List.length_cons, List.length_nil, Nat.zero_add, Nat.mul_one]); omega) | decide | (intros; simp_all; done) | (intros; simp_all; omega)) ?_
                  refine Exists.intro _ (Exists.intro _ (And.intro (StepD.call (in3_fn _ _ _) rfl rfl rfl) (And.intro rfl (And.intro trivial ?_))))
                  refine hK35 _ _ ?_
                  clear hK35
                  first | refine AWPD.condP rfl (fun h9 => ?_) (fun h9 => ?_) | refine AWPD.condN rfl (fun h9 => ?_) (fun h9 => ?_) | refine AWPD.condAP rfl (fun h9 => ?_) (fun h9 => ?_) | refine AWPD.condOP rfl (fun h9 => ?_) (fun h9 => ?_) | refine AWPD.condONN rfl (fun h9 => ?_) (fun h9 => ?_) | refine AWPD.condOPN rfl (fun h9 => ?_) (fun h9 => ?_) | refine AWPD.condA rfl (fun h9 => ?_) (fun h9 => ?_) | refine AWPD.condO rfl (fun h9 => ?_) (fun h9 => ?_) | refine AWPD.cond rfl (fun h9 => ?_) (fun h9 => ?_)
                  · try dsimp only [Ty.T] at h9
                    try simp only [castL_self] at h9
                    try simp only [Int.toNat_natCast] at h9
                    try simp only [Int.toNat_zero] at h9
                    refine AWPD.seq fun K36 hK36 => ?_
                    -- region 24
                    refine AWPD.keep [] rfl ?_
                    refine AWPD.region tabOK rfl ?_
                    refine hK36 _ _ ?_
                    clear hK36
                    refine AWPD.ret (And.intro (.inl rfl) ?_)
                    -- result 6
                    refine RetD.one ?_
                    have he : stE P A N S u = 1 := by unfold stE; rw [if_neg (by omega), if_pos (inAll_bad (a := i) (by omega) h9)]
                    exact fitI rfl (by rw [hm, fE_stop hv1 (by rw [he]; decide) hs, he])
                  · try dsimp only [Ty.T] at h9
                    try simp only [castL_self] at h9
                    try simp only [Int.toNat_natCast] at h9
                    try simp only [Int.toNat_zero] at h9
                    refine AWPD.skip ?_
                    refine hK34 _ _ ?_
                    clear hK34
                    -- region 22
                    refine AWPD.keep [1, 3, 5, 6] rfl ?_
                    refine AWPD.region tabOK rfl ?_
                    repeat refine And.intro (by first | exact fun h => h | exact fun _ => rfl | (intro h; rw [h]; rfl) | omega | (intros; (try dsimp only [Ty.T, Ty.size]); (try simp only [castL_self, Int.toNat_natCast, Int.toNat_zero, Int.toNat_one, true_and, List.length_append, List.length_set, List.length_drop, List.length_take, List.length_replicate, List.length_cons, List.length_nil, Nat.zero_add, Nat.mul_one]); omega) | decide | (intros; simp_all; done) | (intros; simp_all; omega)) ?_
                    refine ⟨n2 - 1, i + 1, [], by omega, ⟨by omega, inAll_snoc hv2 h9⟩, ⟨by decide, rfl⟩, trivial, ?_⟩
                    repeat' first | exact True.intro | exact rfl | exact ⟨rfl, rfl⟩ | refine And.intro ?_ ?_
                · try dsimp only [Ty.T] at h8
                  try simp only [castL_self] at h8
                  try simp only [Int.toNat_natCast] at h8
                  try simp only [Int.toNat_zero] at h8
                  refine AWPD.exit ?_
                  refine hK30 _ _ ?_
                  clear hK30
                  refine AWPD.seq fun K37 hK37 => ?_
                  -- region 25
                  refine AWPD.keep [1, 3, 5] rfl ?_
                  refine AWPD.region tabOK rfl ?_
                  refine hK37 _ _ ?_
                  clear hK37
                  refine AWPD.block ?_
                  -- LOOP 3 live [1, 3, 5, 7] changed [7]
                  refine AWPD.loopK (σ := Nat) [1, 3, 5] (fun k base => (7, .i (k : Int)) :: base) (fun _ => []) (fun n k => n + k = P.toNat ∧ ∀ a, a < k → 0 ≤ (S.getD u []).getD a 0 ∧ (S.getD u []).getD a 0 ≤ 999999) (P.toNat) 0 [] rfl rfl (⟨by omega, by intro a ha; omega⟩) (by decide) trivial (by repeat' first | exact True.intro | exact rfl | exact ⟨rfl, rfl⟩ | refine And.intro ?_ ?_) fun n3 k hI3 => ?_
                  obtain ⟨hn3, hv3⟩ := hI3
                  refine AWPD.seq fun K38 hK38 => ?_
                  refine AWPD.seq fun K39 hK39 => ?_
                  -- region 26
                  refine AWPD.keep [1, 3, 5, 7] rfl ?_
                  refine AWPD.region tabOK rfl ?_
                  repeat refine And.intro (by first | exact fun h => h | exact fun _ => rfl | (intro h; rw [h]; rfl) | omega | (intros; (try dsimp only [Ty.T, Ty.size]); (try simp only [castL_self, Int.toNat_natCast, Int.toNat_zero, Int.toNat_one, true_and, List.length_append, List.length_set, List.length_drop, List.length_take, List.length_replicate, List.length_cons, List.length_nil, Nat.zero_add, Nat.mul_one]); omega) | decide | (intros; simp_all; done) | (intros; simp_all; omega)) ?_
                  refine hK39 _ _ ?_
                  clear hK39
                  first | refine AWPD.condP rfl (fun h10 => ?_) (fun h10 => ?_) | refine AWPD.condN rfl (fun h10 => ?_) (fun h10 => ?_) | refine AWPD.condAP rfl (fun h10 => ?_) (fun h10 => ?_) | refine AWPD.condOP rfl (fun h10 => ?_) (fun h10 => ?_) | refine AWPD.condONN rfl (fun h10 => ?_) (fun h10 => ?_) | refine AWPD.condOPN rfl (fun h10 => ?_) (fun h10 => ?_) | refine AWPD.condA rfl (fun h10 => ?_) (fun h10 => ?_) | refine AWPD.condO rfl (fun h10 => ?_) (fun h10 => ?_) | refine AWPD.cond rfl (fun h10 => ?_) (fun h10 => ?_)
                  · try dsimp only [Ty.T] at h10
                    try simp only [castL_self] at h10
                    try simp only [Int.toNat_natCast] at h10
                    try simp only [Int.toNat_zero] at h10
                    refine AWPD.skip ?_
                    refine hK38 _ _ ?_
                    clear hK38
                    refine AWPD.seq fun K40 hK40 => ?_
                    refine AWPD.block ?_
                    refine AWPD.seq fun K41 hK41 => ?_
                    -- region 28
                    refine AWPD.keep [1, 3, 5, 7] rfl ?_
                    refine AWPD.region tabOK rfl ?_
                    repeat refine And.intro (by first | exact fun h => h | exact fun _ => rfl | (intro h; rw [h]; rfl) | omega | (intros; (try dsimp only [Ty.T, Ty.size]); (try simp only [castL_self, Int.toNat_natCast, Int.toNat_zero, Int.toNat_one, true_and, List.length_append, List.length_set, List.length_drop, List.length_take, List.length_replicate, List.length_cons, List.length_nil, Nat.zero_add, Nat.mul_one]); omega) | decide | (intros; simp_all; done) | (intros; simp_all; omega)) ?_
                    refine Exists.intro _ (Exists.intro _ (And.intro (StepD.call (in3_fn _ _ _) rfl rfl rfl) (And.intro rfl (And.intro trivial ?_))))
                    refine hK41 _ _ ?_
                    clear hK41
                    first | refine AWPD.condP rfl (fun h11 => ?_) (fun h11 => ?_) | refine AWPD.condN rfl (fun h11 => ?_) (fun h11 => ?_) | refine AWPD.condAP rfl (fun h11 => ?_) (fun h11 => ?_) | refine AWPD.condOP rfl (fun h11 => ?_) (fun h11 => ?_) | refine AWPD.condONN rfl (fun h11 => ?_) (fun h11 => ?_) | refine AWPD.condOPN rfl (fun h11 => ?_) (fun h11 => ?_) | refine AWPD.condA rfl (fun h11 => ?_) (fun h11 => ?_) | refine AWPD.condO rfl (fun h11 => ?_) (fun h11 => ?_) | refine AWPD.cond rfl (fun h11 => ?_) (fun h11 => ?_)
                    · try dsimp only [Ty.T] at h11
                      try simp only [castL_self] at h11
                      try simp only [Int.toNat_natCast] at h11
                      try simp only [Int.toNat_zero] at h11
                      refine AWPD.seq fun K42 hK42 => ?_
                      -- region 29
                      refine AWPD.keep [] rfl ?_
                      refine AWPD.region tabOK rfl ?_
                      refine hK42 _ _ ?_
                      clear hK42
                      refine AWPD.ret (And.intro (.inl rfl) ?_)
                      -- result 7
                      refine RetD.one ?_
                      have he : stE P A N S u = 1 := by unfold stE; rw [if_neg (by omega), if_neg (fun h => h (fun a ha => hv2 a (by omega))), if_pos (inAll_bad (a := k) (by omega) h11)]
                      exact fitI rfl (by rw [hm, fE_stop hv1 (by rw [he]; decide) hs, he])
                    · try dsimp only [Ty.T] at h11
                      try simp only [castL_self] at h11
                      try simp only [Int.toNat_natCast] at h11
                      try simp only [Int.toNat_zero] at h11
                      refine AWPD.skip ?_
                      refine hK40 _ _ ?_
                      clear hK40
                      -- region 27
                      refine AWPD.keep [1, 3, 5, 7] rfl ?_
                      refine AWPD.region tabOK rfl ?_
                      repeat refine And.intro (by first | exact fun h => h | exact fun _ => rfl | (intro h; rw [h]; rfl) | omega | (intros; (try dsimp only [Ty.T, Ty.size]); (try simp only [castL_self, Int.toNat_natCast, Int.toNat_zero, Int.toNat_one, true_and, List.length_append, List.length_set, List.length_drop, List.length_take, List.length_replicate, List.length_cons, List.length_nil, Nat.zero_add, Nat.mul_one]); omega) | decide | (intros; simp_all; done) | (intros; simp_all; omega)) ?_
                      refine ⟨n3 - 1, k + 1, [], by omega, ⟨by omega, inAll_snoc hv3 h11⟩, ⟨by decide, rfl⟩, trivial, ?_⟩
                      repeat' first | exact True.intro | exact rfl | exact ⟨rfl, rfl⟩ | refine And.intro ?_ ?_
                  · try dsimp only [Ty.T] at h10
                    try simp only [castL_self] at h10
                    try simp only [Int.toNat_natCast] at h10
                    try simp only [Int.toNat_zero] at h10
                    refine AWPD.exit ?_
                    refine hK26 _ _ ?_
                    clear hK26
                    -- region 17
                    refine AWPD.keep [1, 3, 5] rfl ?_
                    refine AWPD.region tabOK rfl ?_
                    repeat refine And.intro (by first | exact fun h => h | exact fun _ => rfl | (intro h; rw [h]; rfl) | omega | (intros; (try dsimp only [Ty.T, Ty.size]); (try simp only [castL_self, Int.toNat_natCast, Int.toNat_zero, Int.toNat_one, true_and, List.length_append, List.length_set, List.length_drop, List.length_take, List.length_replicate, List.length_cons, List.length_nil, Nat.zero_add, Nat.mul_one]); omega) | decide | (intros; simp_all; done) | (intros; simp_all; omega)) ?_
                    refine ⟨n1 - 1, u + 1, [], by omega, ⟨by omega, fun s hs => by
                            rcases Nat.lt_or_ge s u with h | h
                            · exact hv1 s h
                            · rw [show s = u by omega]; unfold stE; rw [if_neg (by omega), if_neg (fun h => h (fun a ha => hv2 a (by omega))), if_neg (fun h => h (fun a ha => hv3 a (by omega)))]⟩, ⟨by decide, rfl⟩, trivial, ?_⟩
                    repeat' first | exact True.intro | exact rfl | exact ⟨rfl, rfl⟩ | refine And.intro ?_ ?_
            · try dsimp only [Ty.T] at h6
              try simp only [castL_self] at h6
              try simp only [Int.toNat_natCast] at h6
              try simp only [Int.toNat_zero] at h6
              refine AWPD.exit ?_
              refine hK22 _ _ ?_
              clear hK22
              refine AWPD.seq fun K43 hK43 => ?_
              -- region 30
              refine AWPD.keep [] rfl ?_
              refine AWPD.region tabOK rfl ?_
              refine hK43 _ _ ?_
              clear hK43
              refine AWPD.ret (And.intro (.inl rfl) ?_)
              -- result 8
              refine RetD.one ?_
              exact fitI rfl (by rw [hm, fE_zero fun s hs => hv1 s (by omega)])

/-- A fault, going on where there is none yet. -/
def seqE (b : Int) (f : Nat → Int) (i : Nat) : Int := if b ≠ 0 then b else fE f i
theorem seqE_zero (b : Int) (f : Nat → Int) : b = seqE b f 0 := by unfold seqE; split <;> simp_all [fE]
theorem seqE_next {b : Int} {f : Nat → Int} {i : Nat} (h : seqE b f i = 0) : f i = seqE b f (i + 1) := by
  unfold seqE at h ⊢
  split at h
  · rename_i h1; exact absurd h h1
  · rename_i h1; rw [if_neg h1, fE, if_neg (by omega)]
theorem fE_on {f : Nat → Int} {i : Nat} (h : fE f i ≠ 0) : ∀ {n : Nat}, i ≤ n → fE f n = fE f i
  | 0, hn => by rw [show i = 0 by omega]
  | n + 1, hn => by
    by_cases hin : i = n + 1
    · rw [hin]
    · rw [fE, fE_on h (n := n) (by omega), if_pos h]
theorem seqE_end {b : Int} {f : Nat → Int} {i n : Nat} (hi : i ≤ n) (h : i = n ∨ seqE b f i ≠ 0) : seqE b f i = seqE b f n := by
  rcases h with h | h
  · rw [h]
  · unfold seqE at h ⊢
    by_cases hb : b ≠ 0
    · rw [if_pos hb, if_pos hb]
    · rw [if_neg hb] at h
      rw [if_neg hb, if_neg hb, fE_on h hi]
def badA (A w : List Int) (i : Nat) : Int := if 0 ≤ w.getD i 0 ∧ w.getD i 0 ≤ (A.length : Int) - 1 then 0 else 1
theorem badA_all {A w : List Int} : fE (badA A w) w.length = if inAll w ((A.length : Int) - 1) then 0 else 1 := by
  by_cases h : inAll w ((A.length : Int) - 1)
  · rw [if_pos h]
    exact fE_zero fun i hi => by unfold badA; rw [if_pos (h i hi)]
  · rw [if_neg h]
    by_cases hz : fE (badA A w) w.length = 0
    · exact absurd (fun i hi => by
        have := fE_of hz i hi
        unfold badA at this
        split at this
        · assumption
        · cases this) h
    · have : ∀ n, fE (badA A w) n = 0 ∨ fE (badA A w) n = 1 := by
        intro n
        induction n with
        | zero => exact .inl rfl
        | succ n ih =>
          rw [fE]
          split
          · exact ih
          · unfold badA; split <;> simp
      rcases this w.length with h1 | h1
      · exact absurd h1 hz
      · exact h1
def wordB (P : Int) (A : List Int) (N S : List (List Int)) (w : List Int) : Int := if machE P A N S = 0 ∧ 40 < w.length then 4 else machE P A N S
theorem word_seq (P : Int) (A : List Int) (N S : List (List Int)) (w : List Int) : seqE (wordB P A N S w) (badA A w) w.length = wordE P A N S w := by
  unfold seqE wordB wordE
  rw [badA_all]
  by_cases h1 : machE P A N S = 0
  · by_cases h2 : 40 < w.length
    · simp [h1, h2]
    · simp [h1, h2]
  · simp [h1]
theorem wordB_zero {P : Int} {A : List Int} {N S : List (List Int)} {w : List Int} {g : Nat → Int} {i : Nat} (h : seqE (wordB P A N S w) g i = 0) : machE P A N S = 0 ∧ w.length ≤ 40 := by
  unfold seqE wordB at h
  by_cases hz : machE P A N S = 0
  · refine ⟨hz, ?_⟩
    by_cases hl : 40 < w.length
    · simp [hz, hl] at h
    · omega
  · rw [if_pos (by rw [if_neg (fun hh => hz hh.1)]; exact hz), if_neg (fun hh => hz hh.1)] at h; exact absurd h hz
def polB (P : Int) (A : List Int) (N S : List (List Int)) (f : List Int) : Int := if machE P A N S = 0 ∧ (f.length : Int) ≠ P then 3 else machE P A N S
theorem polB_zero {P : Int} {A : List Int} {N S : List (List Int)} {f : List Int} {g : Nat → Int} {i : Nat} (h : seqE (polB P A N S f) g i = 0) : machE P A N S = 0 ∧ (f.length : Int) = P := by
  unfold seqE polB at h
  by_cases hz : machE P A N S = 0
  · refine ⟨hz, ?_⟩
    by_cases hl : (f.length : Int) = P
    · exact hl
    · simp [hz, hl] at h
  · rw [if_pos (by rw [if_neg (fun hh => hz hh.1)]; exact hz), if_neg (fun hh => hz hh.1)] at h; exact absurd h hz
theorem pol_seq (P : Int) (A : List Int) (N S : List (List Int)) (f : List Int) : seqE (polB P A N S f) (polSt P f) f.length = polE P A N S f := by
  unfold seqE polB polE
  by_cases h1 : machE P A N S = 0
  · by_cases h2 : (f.length : Int) ≠ P
    · simp [h1, h2]
    · simp [h1, h2]
  · simp [h1]

theorem rword_fn (P : Int) (A : List Int) (N S : List (List Int)) (w : List Int) : LiftsD Tryd.prog 33 [.agg [.i P, .sl .int A, .sl (.sl .int) N, .sl (.sl .int) S], .sl .int w] (.i (wordE P A N S w)) := by
  refine LiftsD.of_body 37 [.tmp 4] Tryd.func33 rfl Tryd.ntmps33 (by kernel_rfl) rfl rfl fun w0 X0 => ?_
  refine AWPD.seq fun K1 hK1 => ?_
  -- region 0
  refine AWPD.keep [0, 1] rfl ?_
  refine AWPD.region tabOK rfl ?_
  refine hK1 _ _ ?_
  clear hK1
  refine AWPD.seq fun K2 hK2 => ?_
  -- region 1
  refine AWPD.keep [1, 2] rfl ?_
  refine AWPD.region tabOK rfl ?_
  repeat refine And.intro (by first | exact fun h => h | exact fun _ => rfl | (intro h; rw [h]; rfl) | omega | (intros; (try dsimp only [Ty.T, Ty.size]); (try simp only [castL_self, Int.toNat_natCast, Int.toNat_zero, Int.toNat_one, true_and, List.length_append, List.length_set, List.length_drop, List.length_take, List.length_replicate, List.length_cons, List.length_nil, Nat.zero_add, Nat.mul_one]); omega) | decide | (intros; simp_all; done) | (intros; simp_all; omega)) ?_
  refine Exists.intro _ (Exists.intro _ (And.intro (StepD.call (rmach_fn _ _ _ _) rfl rfl rfl) (And.intro rfl (And.intro trivial ?_))))
  refine hK2 _ _ ?_
  clear hK2
  refine AWPD.seq fun K3 hK3 => ?_
  refine AWPD.seq fun K4 hK4 => ?_
  -- region 2
  refine AWPD.keep [1, 2, 5] rfl ?_
  refine AWPD.region tabOK rfl ?_
  repeat refine And.intro (by first | exact fun h => h | exact fun _ => rfl | (intro h; rw [h]; rfl) | omega | (intros; (try dsimp only [Ty.T, Ty.size]); (try simp only [castL_self, Int.toNat_natCast, Int.toNat_zero, Int.toNat_one, true_and, List.length_append, List.length_set, List.length_drop, List.length_take, List.length_replicate, List.length_cons, List.length_nil, Nat.zero_add, Nat.mul_one]); omega) | decide | (intros; simp_all; done) | (intros; simp_all; omega)) ?_
  refine hK4 _ _ ?_
  clear hK4
  first | refine AWPD.condAP rfl (fun h0 => ?_) (fun h0 => ?_)
  · try dsimp only [Ty.T] at h0
    try simp only [castL_self] at h0
    try simp only [Int.toNat_natCast] at h0
    try simp only [Int.toNat_zero] at h0
    have hb : (4 : Int) = wordB P A N S w := by unfold wordB; rw [if_pos (by omega)]
    -- region 3
    refine AWPD.keep [1, 2] rfl ?_
    refine AWPD.region tabOK rfl ?_
    refine hK3 _ _ ?_
    clear hK3
    refine AWPD.seq fun K5 hK5 => ?_
    refine AWPD.seq fun K6 hK6 => ?_
    -- region 4
    refine AWPD.keep [1, 2, 5] rfl ?_
    refine AWPD.region tabOK rfl ?_
    refine hK6 _ _ ?_
    clear hK6
    refine AWPD.block ?_
    -- LOOP 0 live [1, 2, 5, 6] changed [5, 6]
    refine AWPD.loopK (σ := Nat) [1, 2] (fun i base => (5, .i (seqE (wordB P A N S w) (badA A w) i)) :: (6, .i (i : Int)) :: base) (fun _ => []) (fun n i => n + i = w.length) (w.length) 0 [] rfl rfl (by omega) (by decide) trivial (by repeat' first | (show (4 : Int) = _; rw [hb]; exact seqE_zero _ _) | (show machE P A N S = _; rw [hb]; exact seqE_zero _ _) | exact True.intro | exact rfl | exact ⟨rfl, rfl⟩ | refine And.intro ?_ ?_) fun n0 i hI0 => ?_
    have hn0 := hI0
    refine AWPD.seq fun K7 hK7 => ?_
    refine AWPD.seq fun K8 hK8 => ?_
    -- region 5
    refine AWPD.keep [1, 2, 5, 6] rfl ?_
    refine AWPD.region tabOK rfl ?_
    repeat refine And.intro (by first | exact fun h => h | exact fun _ => rfl | (intro h; rw [h]; rfl) | omega | (intros; (try dsimp only [Ty.T, Ty.size]); (try simp only [castL_self, Int.toNat_natCast, Int.toNat_zero, Int.toNat_one, true_and, List.length_append, List.length_set, List.length_drop, List.length_take, List.length_replicate, List.length_cons, List.length_nil, Nat.zero_add, Nat.mul_one]); omega) | decide | (intros; simp_all; done) | (intros; simp_all; omega)) ?_
    refine hK8 _ _ ?_
    clear hK8
    first | refine AWPD.condAP rfl (fun h1 => ?_) (fun h1 => ?_)
    · try dsimp only [Ty.T] at h1
      try simp only [castL_self] at h1
      try simp only [Int.toNat_natCast] at h1
      try simp only [Int.toNat_zero] at h1
      obtain ⟨hm0, hw40⟩ := wordB_zero h1.2
      have g6 := (mach_good hm0).acts6
      refine AWPD.skip ?_
      refine hK7 _ _ ?_
      clear hK7
      refine AWPD.seq fun K9 hK9 => ?_
      refine AWPD.block ?_
      refine AWPD.seq fun K10 hK10 => ?_
      -- region 7
      refine AWPD.keep [1, 2, 5, 6] rfl ?_
      refine AWPD.draw tabOK [] rfl (by kernel_rfl) ?_
      repeat refine And.intro (by first | exact fun h => h | exact fun _ => rfl | (intro h; rw [h]; rfl) | omega | (intros; (try dsimp only [Ty.T, Ty.size]); (try simp only [castL_self, Int.toNat_natCast, Int.toNat_zero, Int.toNat_one, true_and, List.length_append, List.length_set, List.length_drop, List.length_take, List.length_replicate, List.length_cons, List.length_nil, Nat.zero_add, Nat.mul_one]); omega) | decide | (intros; simp_all; done) | (intros; simp_all; omega)) ?_
      refine Exists.intro _ (Exists.intro _ (And.intro (StepD.call (in3_fn _ _ _) rfl rfl rfl) (And.intro rfl (And.intro rfl ?_))))
      refine hK10 _ _ ?_
      clear hK10
      first | refine AWPD.condP rfl (fun h2 => ?_) (fun h2 => ?_) | refine AWPD.condN rfl (fun h2 => ?_) (fun h2 => ?_) | refine AWPD.condAP rfl (fun h2 => ?_) (fun h2 => ?_) | refine AWPD.condOP rfl (fun h2 => ?_) (fun h2 => ?_) | refine AWPD.condONN rfl (fun h2 => ?_) (fun h2 => ?_) | refine AWPD.condOPN rfl (fun h2 => ?_) (fun h2 => ?_) | refine AWPD.condA rfl (fun h2 => ?_) (fun h2 => ?_) | refine AWPD.condO rfl (fun h2 => ?_) (fun h2 => ?_) | refine AWPD.cond rfl (fun h2 => ?_) (fun h2 => ?_)
      · try dsimp only [Ty.T] at h2
        try simp only [castL_self] at h2
        try simp only [Int.toNat_natCast] at h2
        try simp only [Int.toNat_zero] at h2
        have hbd : (1 : Int) = badA A w i := by unfold badA; rw [if_neg h2]
        -- region 8
        refine AWPD.keep [1, 2, 6] rfl ?_
        refine AWPD.region tabOK rfl ?_
        refine hK9 _ _ ?_
        clear hK9
        -- region 6
        refine AWPD.keep [1, 2, 5, 6] rfl ?_
        refine AWPD.region tabOK rfl ?_
        repeat refine And.intro (by first | exact fun h => h | exact fun _ => rfl | (intro h; rw [h]; rfl) | omega | (intros; (try dsimp only [Ty.T, Ty.size]); (try simp only [castL_self, Int.toNat_natCast, Int.toNat_zero, Int.toNat_one, true_and, List.length_append, List.length_set, List.length_drop, List.length_take, List.length_replicate, List.length_cons, List.length_nil, Nat.zero_add, Nat.mul_one]); omega) | decide | (intros; simp_all; done) | (intros; simp_all; omega)) ?_
        refine ⟨n0 - 1, i + 1, [], by omega, by omega, ⟨by decide, rfl⟩, trivial, ?_⟩
        repeat' first | (show (1 : Int) = _; rw [hbd]; exact seqE_next h1.2) | (show seqE (wordB P A N S w) (badA A w) i = _; rw [h1.2, hbd]; exact seqE_next h1.2) | exact True.intro | exact rfl | exact ⟨rfl, rfl⟩ | refine And.intro ?_ ?_
      · try dsimp only [Ty.T] at h2
        try simp only [castL_self] at h2
        try simp only [Int.toNat_natCast] at h2
        try simp only [Int.toNat_zero] at h2
        have hbd : (0 : Int) = badA A w i := by unfold badA; rw [if_pos h2]
        refine AWPD.skip ?_
        refine hK9 _ _ ?_
        clear hK9
        -- region 6
        refine AWPD.keep [1, 2, 5, 6] rfl ?_
        refine AWPD.region tabOK rfl ?_
        repeat refine And.intro (by first | exact fun h => h | exact fun _ => rfl | (intro h; rw [h]; rfl) | omega | (intros; (try dsimp only [Ty.T, Ty.size]); (try simp only [castL_self, Int.toNat_natCast, Int.toNat_zero, Int.toNat_one, true_and, List.length_append, List.length_set, List.length_drop, List.length_take, List.length_replicate, List.length_cons, List.length_nil, Nat.zero_add, Nat.mul_one]); omega) | decide | (intros; simp_all; done) | (intros; simp_all; omega)) ?_
        refine ⟨n0 - 1, i + 1, [], by omega, by omega, ⟨by decide, rfl⟩, trivial, ?_⟩
        repeat' first | (show (1 : Int) = _; rw [hbd]; exact seqE_next h1.2) | (show seqE (wordB P A N S w) (badA A w) i = _; rw [h1.2, hbd]; exact seqE_next h1.2) | exact True.intro | exact rfl | exact ⟨rfl, rfl⟩ | refine And.intro ?_ ?_
    · try dsimp only [Ty.T] at h1
      try simp only [castL_self] at h1
      try simp only [Int.toNat_natCast] at h1
      try simp only [Int.toNat_zero] at h1
      have he := seqE_end (b := wordB P A N S w) (f := badA A w) (i := i) (n := w.length) (by omega) (by omega)
      refine AWPD.exit ?_
      refine hK5 _ _ ?_
      clear hK5
      refine AWPD.seq fun K11 hK11 => ?_
      -- region 9
      refine AWPD.keep [5] rfl ?_
      refine AWPD.region tabOK rfl ?_
      refine hK11 _ _ ?_
      clear hK11
      refine AWPD.ret (And.intro (.inl rfl) ?_)
      -- result 0
      refine RetD.one ?_
      exact fitI rfl (by rw [he, word_seq])
  · try dsimp only [Ty.T] at h0
    try simp only [castL_self] at h0
    try simp only [Int.toNat_natCast] at h0
    try simp only [Int.toNat_zero] at h0
    have hb : machE P A N S = wordB P A N S w := by unfold wordB; rw [if_neg (by omega)]
    refine AWPD.skip ?_
    refine hK3 _ _ ?_
    clear hK3
    refine AWPD.seq fun K12 hK12 => ?_
    refine AWPD.seq fun K13 hK13 => ?_
    -- region 4
    refine AWPD.keep [1, 2, 5] rfl ?_
    refine AWPD.region tabOK rfl ?_
    refine hK13 _ _ ?_
    clear hK13
    refine AWPD.block ?_
    -- LOOP 0 live [1, 2, 5, 6] changed [5, 6]
    refine AWPD.loopK (σ := Nat) [1, 2] (fun i base => (5, .i (seqE (wordB P A N S w) (badA A w) i)) :: (6, .i (i : Int)) :: base) (fun _ => []) (fun n i => n + i = w.length) (w.length) 0 [] rfl rfl (by omega) (by decide) trivial (by repeat' first | (show (4 : Int) = _; rw [hb]; exact seqE_zero _ _) | (show machE P A N S = _; rw [hb]; exact seqE_zero _ _) | exact True.intro | exact rfl | exact ⟨rfl, rfl⟩ | refine And.intro ?_ ?_) fun n0 i hI0 => ?_
    have hn0 := hI0
    refine AWPD.seq fun K14 hK14 => ?_
    refine AWPD.seq fun K15 hK15 => ?_
    -- region 5
    refine AWPD.keep [1, 2, 5, 6] rfl ?_
    refine AWPD.region tabOK rfl ?_
    repeat refine And.intro (by first | exact fun h => h | exact fun _ => rfl | (intro h; rw [h]; rfl) | omega | (intros; (try dsimp only [Ty.T, Ty.size]); (try simp only [castL_self, Int.toNat_natCast, Int.toNat_zero, Int.toNat_one, true_and, List.length_append, List.length_set, List.length_drop, List.length_take, List.length_replicate, List.length_cons, List.length_nil, Nat.zero_add, Nat.mul_one]); omega) | decide | (intros; simp_all; done) | (intros; simp_all; omega)) ?_
    refine hK15 _ _ ?_
    clear hK15
    first | refine AWPD.condAP rfl (fun h1 => ?_) (fun h1 => ?_)
    · try dsimp only [Ty.T] at h1
      try simp only [castL_self] at h1
      try simp only [Int.toNat_natCast] at h1
      try simp only [Int.toNat_zero] at h1
      obtain ⟨hm0, hw40⟩ := wordB_zero h1.2
      have g6 := (mach_good hm0).acts6
      refine AWPD.skip ?_
      refine hK14 _ _ ?_
      clear hK14
      refine AWPD.seq fun K16 hK16 => ?_
      refine AWPD.block ?_
      refine AWPD.seq fun K17 hK17 => ?_
      -- region 7
      refine AWPD.keep [1, 2, 5, 6] rfl ?_
      refine AWPD.draw tabOK [] rfl (by kernel_rfl) ?_
      repeat refine And.intro (by first | exact fun h => h | exact fun _ => rfl | (intro h; rw [h]; rfl) | omega | (intros; (try dsimp only [Ty.T, Ty.size]); (try simp only [castL_self, Int.toNat_natCast, Int.toNat_zero, Int.toNat_one, true_and, List.length_append, List.length_set, List.length_drop, List.length_take, List.length_replicate, List.length_cons, List.length_nil, Nat.zero_add, Nat.mul_one]); omega) | decide | (intros; simp_all; done) | (intros; simp_all; omega)) ?_
      refine Exists.intro _ (Exists.intro _ (And.intro (StepD.call (in3_fn _ _ _) rfl rfl rfl) (And.intro rfl (And.intro rfl ?_))))
      refine hK17 _ _ ?_
      clear hK17
      first | refine AWPD.condP rfl (fun h2 => ?_) (fun h2 => ?_) | refine AWPD.condN rfl (fun h2 => ?_) (fun h2 => ?_) | refine AWPD.condAP rfl (fun h2 => ?_) (fun h2 => ?_) | refine AWPD.condOP rfl (fun h2 => ?_) (fun h2 => ?_) | refine AWPD.condONN rfl (fun h2 => ?_) (fun h2 => ?_) | refine AWPD.condOPN rfl (fun h2 => ?_) (fun h2 => ?_) | refine AWPD.condA rfl (fun h2 => ?_) (fun h2 => ?_) | refine AWPD.condO rfl (fun h2 => ?_) (fun h2 => ?_) | refine AWPD.cond rfl (fun h2 => ?_) (fun h2 => ?_)
      · try dsimp only [Ty.T] at h2
        try simp only [castL_self] at h2
        try simp only [Int.toNat_natCast] at h2
        try simp only [Int.toNat_zero] at h2
        have hbd : (1 : Int) = badA A w i := by unfold badA; rw [if_neg h2]
        -- region 8
        refine AWPD.keep [1, 2, 6] rfl ?_
        refine AWPD.region tabOK rfl ?_
        refine hK16 _ _ ?_
        clear hK16
        -- region 6
        refine AWPD.keep [1, 2, 5, 6] rfl ?_
        refine AWPD.region tabOK rfl ?_
        repeat refine And.intro (by first | exact fun h => h | exact fun _ => rfl | (intro h; rw [h]; rfl) | omega | (intros; (try dsimp only [Ty.T, Ty.size]); (try simp only [castL_self, Int.toNat_natCast, Int.toNat_zero, Int.toNat_one, true_and, List.length_append, List.length_set, List.length_drop, List.length_take, List.length_replicate, List.length_cons, List.length_nil, Nat.zero_add, Nat.mul_one]); omega) | decide | (intros; simp_all; done) | (intros; simp_all; omega)) ?_
        refine ⟨n0 - 1, i + 1, [], by omega, by omega, ⟨by decide, rfl⟩, trivial, ?_⟩
        repeat' first | (show (1 : Int) = _; rw [hbd]; exact seqE_next h1.2) | (show seqE (wordB P A N S w) (badA A w) i = _; rw [h1.2, hbd]; exact seqE_next h1.2) | exact True.intro | exact rfl | exact ⟨rfl, rfl⟩ | refine And.intro ?_ ?_
      · try dsimp only [Ty.T] at h2
        try simp only [castL_self] at h2
        try simp only [Int.toNat_natCast] at h2
        try simp only [Int.toNat_zero] at h2
        have hbd : (0 : Int) = badA A w i := by unfold badA; rw [if_pos h2]
        refine AWPD.skip ?_
        refine hK16 _ _ ?_
        clear hK16
        -- region 6
        refine AWPD.keep [1, 2, 5, 6] rfl ?_
        refine AWPD.region tabOK rfl ?_
        repeat refine And.intro (by first | exact fun h => h | exact fun _ => rfl | (intro h; rw [h]; rfl) | omega | (intros; (try dsimp only [Ty.T, Ty.size]); (try simp only [castL_self, Int.toNat_natCast, Int.toNat_zero, Int.toNat_one, true_and, List.length_append, List.length_set, List.length_drop, List.length_take, List.length_replicate, List.length_cons, List.length_nil, Nat.zero_add, Nat.mul_one]); omega) | decide | (intros; simp_all; done) | (intros; simp_all; omega)) ?_
        refine ⟨n0 - 1, i + 1, [], by omega, by omega, ⟨by decide, rfl⟩, trivial, ?_⟩
        repeat' first | (show (1 : Int) = _; rw [hbd]; exact seqE_next h1.2) | (show seqE (wordB P A N S w) (badA A w) i = _; rw [h1.2, hbd]; exact seqE_next h1.2) | exact True.intro | exact rfl | exact ⟨rfl, rfl⟩ | refine And.intro ?_ ?_
    · try dsimp only [Ty.T] at h1
      try simp only [castL_self] at h1
      try simp only [Int.toNat_natCast] at h1
      try simp only [Int.toNat_zero] at h1
      have he := seqE_end (b := wordB P A N S w) (f := badA A w) (i := i) (n := w.length) (by omega) (by omega)
      refine AWPD.exit ?_
      refine hK12 _ _ ?_
      clear hK12
      refine AWPD.seq fun K18 hK18 => ?_
      -- region 9
      refine AWPD.keep [5] rfl ?_
      refine AWPD.region tabOK rfl ?_
      refine hK18 _ _ ?_
      clear hK18
      refine AWPD.ret (And.intro (.inl rfl) ?_)
      -- result 1
      refine RetD.one ?_
      exact fitI rfl (by rw [he, word_seq])
theorem rpol_fn (P : Int) (A : List Int) (N S : List (List Int)) (f : List Int) : LiftsD Tryd.prog 31 [.agg [.i P, .sl .int A, .sl (.sl .int) N, .sl (.sl .int) S], .sl .int f] (.i (polE P A N S f)) := by
  refine LiftsD.of_body 44 [.tmp 4] Tryd.func31 rfl Tryd.ntmps31 (by kernel_rfl) rfl rfl fun w0 X0 => ?_
  refine AWPD.seq fun K1 hK1 => ?_
  -- region 0
  refine AWPD.keep [0, 1] rfl ?_
  refine AWPD.region tabOK rfl ?_
  refine hK1 _ _ ?_
  clear hK1
  refine AWPD.seq fun K2 hK2 => ?_
  -- region 1
  refine AWPD.keep [1, 2] rfl ?_
  refine AWPD.region tabOK rfl ?_
  repeat refine And.intro (by first | exact fun h => h | exact fun _ => rfl | (intro h; rw [h]; rfl) | omega | (intros; (try dsimp only [Ty.T, Ty.size]); (try simp only [castL_self, Int.toNat_natCast, Int.toNat_zero, Int.toNat_one, true_and, List.length_append, List.length_set, List.length_drop, List.length_take, List.length_replicate, List.length_cons, List.length_nil, Nat.zero_add, Nat.mul_one]); omega) | decide | (intros; simp_all; done) | (intros; simp_all; omega)) ?_
  refine Exists.intro _ (Exists.intro _ (And.intro (StepD.call (rmach_fn _ _ _ _) rfl rfl rfl) (And.intro rfl (And.intro trivial ?_))))
  refine hK2 _ _ ?_
  clear hK2
  refine AWPD.seq fun K3 hK3 => ?_
  refine AWPD.seq fun K4 hK4 => ?_
  -- region 2
  refine AWPD.keep [1, 2, 5] rfl ?_
  refine AWPD.region tabOK rfl ?_
  repeat refine And.intro (by first | exact fun h => h | exact fun _ => rfl | (intro h; rw [h]; rfl) | omega | (intros; (try dsimp only [Ty.T, Ty.size]); (try simp only [castL_self, Int.toNat_natCast, Int.toNat_zero, Int.toNat_one, true_and, List.length_append, List.length_set, List.length_drop, List.length_take, List.length_replicate, List.length_cons, List.length_nil, Nat.zero_add, Nat.mul_one]); omega) | decide | (intros; simp_all; done) | (intros; simp_all; omega)) ?_
  refine hK4 _ _ ?_
  clear hK4
  first | refine AWPD.condAP rfl (fun h0 => ?_) (fun h0 => ?_)
  · try dsimp only [Ty.T] at h0
    try simp only [castL_self] at h0
    try simp only [Int.toNat_natCast] at h0
    try simp only [Int.toNat_zero] at h0
    have hb : (3 : Int) = polB P A N S f := by unfold polB; rw [if_pos (by omega)]
    -- region 3
    refine AWPD.keep [1, 2] rfl ?_
    refine AWPD.region tabOK rfl ?_
    refine hK3 _ _ ?_
    clear hK3
    refine AWPD.seq fun K5 hK5 => ?_
    refine AWPD.seq fun K6 hK6 => ?_
    -- region 4
    refine AWPD.keep [1, 2, 5] rfl ?_
    refine AWPD.region tabOK rfl ?_
    refine hK6 _ _ ?_
    clear hK6
    refine AWPD.block ?_
    -- LOOP 0 live [1, 2, 5, 6] changed [5, 6]
    refine AWPD.loopK (σ := Nat) [1, 2] (fun i base => (5, .i (seqE (polB P A N S f) (polSt P f) i)) :: (6, .i (i : Int)) :: base) (fun _ => []) (fun n i => n + i = f.length) (f.length) 0 [] rfl rfl (by omega) (by decide) trivial (by repeat' first | (show (3 : Int) = _; rw [hb]; exact seqE_zero _ _) | (show machE P A N S = _; rw [hb]; exact seqE_zero _ _) | exact True.intro | exact rfl | exact ⟨rfl, rfl⟩ | refine And.intro ?_ ?_) fun n0 i hI0 => ?_
    have hn0 := hI0
    refine AWPD.seq fun K7 hK7 => ?_
    refine AWPD.seq fun K8 hK8 => ?_
    -- region 5
    refine AWPD.keep [1, 2, 5, 6] rfl ?_
    refine AWPD.region tabOK rfl ?_
    repeat refine And.intro (by first | exact fun h => h | exact fun _ => rfl | (intro h; rw [h]; rfl) | omega | (intros; (try dsimp only [Ty.T, Ty.size]); (try simp only [castL_self, Int.toNat_natCast, Int.toNat_zero, Int.toNat_one, true_and, List.length_append, List.length_set, List.length_drop, List.length_take, List.length_replicate, List.length_cons, List.length_nil, Nat.zero_add, Nat.mul_one]); omega) | decide | (intros; simp_all; done) | (intros; simp_all; omega)) ?_
    refine hK8 _ _ ?_
    clear hK8
    first | refine AWPD.condAP rfl (fun h1 => ?_) (fun h1 => ?_)
    · try dsimp only [Ty.T] at h1
      try simp only [castL_self] at h1
      try simp only [Int.toNat_natCast] at h1
      try simp only [Int.toNat_zero] at h1
      obtain ⟨hm0, hfP⟩ := polB_zero h1.2
      have gP := (mach_good hm0).parts
      refine AWPD.skip ?_
      refine hK7 _ _ ?_
      clear hK7
      refine AWPD.seq fun K9 hK9 => ?_
      refine AWPD.block ?_
      refine AWPD.seq fun K10 hK10 => ?_
      -- region 7
      refine AWPD.keep [1, 2, 5, 6] rfl ?_
      refine AWPD.draw tabOK [] rfl (by kernel_rfl) ?_
      repeat refine And.intro (by first | exact fun h => h | exact fun _ => rfl | (intro h; rw [h]; rfl) | omega | (intros; (try dsimp only [Ty.T, Ty.size]); (try simp only [castL_self, Int.toNat_natCast, Int.toNat_zero, Int.toNat_one, true_and, List.length_append, List.length_set, List.length_drop, List.length_take, List.length_replicate, List.length_cons, List.length_nil, Nat.zero_add, Nat.mul_one]); omega) | decide | (intros; simp_all; done) | (intros; simp_all; omega)) ?_
      refine Exists.intro _ (Exists.intro _ (And.intro (StepD.call (rmask_fn (f.getD i 0) P (by omega)) rfl rfl rfl) (And.intro rfl (And.intro rfl ?_))))
      refine hK10 _ _ ?_
      clear hK10
      first | refine AWPD.cond rfl (fun h2 => ?_) (fun h2 => ?_)
      · try dsimp only [Ty.T] at h2
        try simp only [castL_self] at h2
        try simp only [Int.toNat_natCast] at h2
        try simp only [Int.toNat_zero] at h2
        have hbd : (1 : Int) = polSt P f i := by unfold polSt; rw [if_pos (by simpa using h2)]
        -- region 8
        refine AWPD.keep [1, 2, 6] rfl ?_
        refine AWPD.region tabOK rfl ?_
        refine hK9 _ _ ?_
        clear hK9
        -- region 6
        refine AWPD.keep [1, 2, 5, 6] rfl ?_
        refine AWPD.region tabOK rfl ?_
        repeat refine And.intro (by first | exact fun h => h | exact fun _ => rfl | (intro h; rw [h]; rfl) | omega | (intros; (try dsimp only [Ty.T, Ty.size]); (try simp only [castL_self, Int.toNat_natCast, Int.toNat_zero, Int.toNat_one, true_and, List.length_append, List.length_set, List.length_drop, List.length_take, List.length_replicate, List.length_cons, List.length_nil, Nat.zero_add, Nat.mul_one]); omega) | decide | (intros; simp_all; done) | (intros; simp_all; omega)) ?_
        refine ⟨n0 - 1, i + 1, [], by omega, by omega, ⟨by decide, rfl⟩, trivial, ?_⟩
        repeat' first | (show (1 : Int) = _; rw [hbd]; exact seqE_next h1.2) | (show (6 : Int) = _; rw [hbd]; exact seqE_next h1.2) | (show seqE (polB P A N S f) (polSt P f) i = _; rw [h1.2, hbd]; exact seqE_next h1.2) | exact True.intro | exact rfl | exact ⟨rfl, rfl⟩ | refine And.intro ?_ ?_
      · try dsimp only [Ty.T] at h2
        try simp only [castL_self] at h2
        try simp only [Int.toNat_natCast] at h2
        try simp only [Int.toNat_zero] at h2
        have hm2 : maskB (f.getD i 0) P = true := by simpa using h2
        have hml := mask_le hm2 (by omega)
        refine AWPD.seq fun K11 hK11 => ?_
        -- region 9
        refine AWPD.keep [1, 2, 5, 6] rfl ?_
        refine AWPD.region tabOK rfl ?_
        repeat refine And.intro (by first | exact fun h => h | exact fun _ => rfl | (intro h; rw [h]; rfl) | omega | (intros; (try dsimp only [Ty.T, Ty.size]); (try simp only [castL_self, Int.toNat_natCast, Int.toNat_zero, Int.toNat_one, true_and, List.length_append, List.length_set, List.length_drop, List.length_take, List.length_replicate, List.length_cons, List.length_nil, Nat.zero_add, Nat.mul_one]); omega) | decide | (intros; simp_all; done) | (intros; simp_all; omega)) ?_
        refine Exists.intro _ (Exists.intro _ (And.intro (StepD.call (bit_fn (f.getD i 0) (i : Int) (by omega) (by omega)) rfl rfl rfl) (And.intro rfl (And.intro trivial ?_))))
        refine hK11 _ _ ?_
        clear hK11
        first | refine AWPD.cond rfl (fun h3 => ?_) (fun h3 => ?_)
        · try dsimp only [Ty.T] at h3
          try simp only [castL_self] at h3
          try simp only [Int.toNat_natCast] at h3
          try simp only [Int.toNat_zero] at h3
          have hbd : (6 : Int) = polSt P f i := by unfold polSt; rw [if_neg (fun h => h hm2), if_neg (by simpa using h3)]
          -- region 10
          refine AWPD.keep [1, 2, 6] rfl ?_
          refine AWPD.region tabOK rfl ?_
          refine hK9 _ _ ?_
          clear hK9
          -- region 6
          refine AWPD.keep [1, 2, 5, 6] rfl ?_
          refine AWPD.region tabOK rfl ?_
          repeat refine And.intro (by first | exact fun h => h | exact fun _ => rfl | (intro h; rw [h]; rfl) | omega | (intros; (try dsimp only [Ty.T, Ty.size]); (try simp only [castL_self, Int.toNat_natCast, Int.toNat_zero, Int.toNat_one, true_and, List.length_append, List.length_set, List.length_drop, List.length_take, List.length_replicate, List.length_cons, List.length_nil, Nat.zero_add, Nat.mul_one]); omega) | decide | (intros; simp_all; done) | (intros; simp_all; omega)) ?_
          refine ⟨n0 - 1, i + 1, [], by omega, by omega, ⟨by decide, rfl⟩, trivial, ?_⟩
          repeat' first | (show (1 : Int) = _; rw [hbd]; exact seqE_next h1.2) | (show (6 : Int) = _; rw [hbd]; exact seqE_next h1.2) | (show seqE (polB P A N S f) (polSt P f) i = _; rw [h1.2, hbd]; exact seqE_next h1.2) | exact True.intro | exact rfl | exact ⟨rfl, rfl⟩ | refine And.intro ?_ ?_
        · try dsimp only [Ty.T] at h3
          try simp only [castL_self] at h3
          try simp only [Int.toNat_natCast] at h3
          try simp only [Int.toNat_zero] at h3
          have hbd : (0 : Int) = polSt P f i := by unfold polSt; rw [if_neg (fun h => h hm2), if_pos (by simpa using h3)]
          refine AWPD.skip ?_
          refine hK9 _ _ ?_
          clear hK9
          -- region 6
          refine AWPD.keep [1, 2, 5, 6] rfl ?_
          refine AWPD.region tabOK rfl ?_
          repeat refine And.intro (by first | exact fun h => h | exact fun _ => rfl | (intro h; rw [h]; rfl) | omega | (intros; (try dsimp only [Ty.T, Ty.size]); (try simp only [castL_self, Int.toNat_natCast, Int.toNat_zero, Int.toNat_one, true_and, List.length_append, List.length_set, List.length_drop, List.length_take, List.length_replicate, List.length_cons, List.length_nil, Nat.zero_add, Nat.mul_one]); omega) | decide | (intros; simp_all; done) | (intros; simp_all; omega)) ?_
          refine ⟨n0 - 1, i + 1, [], by omega, by omega, ⟨by decide, rfl⟩, trivial, ?_⟩
          repeat' first | (show (1 : Int) = _; rw [hbd]; exact seqE_next h1.2) | (show (6 : Int) = _; rw [hbd]; exact seqE_next h1.2) | (show seqE (polB P A N S f) (polSt P f) i = _; rw [h1.2, hbd]; exact seqE_next h1.2) | exact True.intro | exact rfl | exact ⟨rfl, rfl⟩ | refine And.intro ?_ ?_
    · try dsimp only [Ty.T] at h1
      try simp only [castL_self] at h1
      try simp only [Int.toNat_natCast] at h1
      try simp only [Int.toNat_zero] at h1
      have he := seqE_end (b := polB P A N S f) (f := polSt P f) (i := i) (n := f.length) (by omega) (by omega)
      refine AWPD.exit ?_
      refine hK5 _ _ ?_
      clear hK5
      refine AWPD.seq fun K12 hK12 => ?_
      -- region 11
      refine AWPD.keep [5] rfl ?_
      refine AWPD.region tabOK rfl ?_
      refine hK12 _ _ ?_
      clear hK12
      refine AWPD.ret (And.intro (.inl rfl) ?_)
      -- result 0
      refine RetD.one ?_
      exact fitI rfl (by rw [he, pol_seq])
  · try dsimp only [Ty.T] at h0
    try simp only [castL_self] at h0
    try simp only [Int.toNat_natCast] at h0
    try simp only [Int.toNat_zero] at h0
    have hb : machE P A N S = polB P A N S f := by unfold polB; rw [if_neg (by omega)]
    refine AWPD.skip ?_
    refine hK3 _ _ ?_
    clear hK3
    refine AWPD.seq fun K13 hK13 => ?_
    refine AWPD.seq fun K14 hK14 => ?_
    -- region 4
    refine AWPD.keep [1, 2, 5] rfl ?_
    refine AWPD.region tabOK rfl ?_
    refine hK14 _ _ ?_
    clear hK14
    refine AWPD.block ?_
    -- LOOP 0 live [1, 2, 5, 6] changed [5, 6]
    refine AWPD.loopK (σ := Nat) [1, 2] (fun i base => (5, .i (seqE (polB P A N S f) (polSt P f) i)) :: (6, .i (i : Int)) :: base) (fun _ => []) (fun n i => n + i = f.length) (f.length) 0 [] rfl rfl (by omega) (by decide) trivial (by repeat' first | (show (3 : Int) = _; rw [hb]; exact seqE_zero _ _) | (show machE P A N S = _; rw [hb]; exact seqE_zero _ _) | exact True.intro | exact rfl | exact ⟨rfl, rfl⟩ | refine And.intro ?_ ?_) fun n0 i hI0 => ?_
    have hn0 := hI0
    refine AWPD.seq fun K15 hK15 => ?_
    refine AWPD.seq fun K16 hK16 => ?_
    -- region 5
    refine AWPD.keep [1, 2, 5, 6] rfl ?_
    refine AWPD.region tabOK rfl ?_
    repeat refine And.intro (by first | exact fun h => h | exact fun _ => rfl | (intro h; rw [h]; rfl) | omega | (intros; (try dsimp only [Ty.T, Ty.size]); (try simp only [castL_self, Int.toNat_natCast, Int.toNat_zero, Int.toNat_one, true_and, List.length_append, List.length_set, List.length_drop, List.length_take, List.length_replicate, List.length_cons, List.length_nil, Nat.zero_add, Nat.mul_one]); omega) | decide | (intros; simp_all; done) | (intros; simp_all; omega)) ?_
    refine hK16 _ _ ?_
    clear hK16
    first | refine AWPD.condAP rfl (fun h1 => ?_) (fun h1 => ?_)
    · try dsimp only [Ty.T] at h1
      try simp only [castL_self] at h1
      try simp only [Int.toNat_natCast] at h1
      try simp only [Int.toNat_zero] at h1
      obtain ⟨hm0, hfP⟩ := polB_zero h1.2
      have gP := (mach_good hm0).parts
      refine AWPD.skip ?_
      refine hK15 _ _ ?_
      clear hK15
      refine AWPD.seq fun K17 hK17 => ?_
      refine AWPD.block ?_
      refine AWPD.seq fun K18 hK18 => ?_
      -- region 7
      refine AWPD.keep [1, 2, 5, 6] rfl ?_
      refine AWPD.draw tabOK [] rfl (by kernel_rfl) ?_
      repeat refine And.intro (by first | exact fun h => h | exact fun _ => rfl | (intro h; rw [h]; rfl) | omega | (intros; (try dsimp only [Ty.T, Ty.size]); (try simp only [castL_self, Int.toNat_natCast, Int.toNat_zero, Int.toNat_one, true_and, List.length_append, List.length_set, List.length_drop, List.length_take, List.length_replicate, List.length_cons, List.length_nil, Nat.zero_add, Nat.mul_one]); omega) | decide | (intros; simp_all; done) | (intros; simp_all; omega)) ?_
      refine Exists.intro _ (Exists.intro _ (And.intro (StepD.call (rmask_fn (f.getD i 0) P (by omega)) rfl rfl rfl) (And.intro rfl (And.intro rfl ?_))))
      refine hK18 _ _ ?_
      clear hK18
      first | refine AWPD.cond rfl (fun h2 => ?_) (fun h2 => ?_)
      · try dsimp only [Ty.T] at h2
        try simp only [castL_self] at h2
        try simp only [Int.toNat_natCast] at h2
        try simp only [Int.toNat_zero] at h2
        have hbd : (1 : Int) = polSt P f i := by unfold polSt; rw [if_pos (by simpa using h2)]
        -- region 8
        refine AWPD.keep [1, 2, 6] rfl ?_
        refine AWPD.region tabOK rfl ?_
        refine hK17 _ _ ?_
        clear hK17
        -- region 6
        refine AWPD.keep [1, 2, 5, 6] rfl ?_
        refine AWPD.region tabOK rfl ?_
        repeat refine And.intro (by first | exact fun h => h | exact fun _ => rfl | (intro h; rw [h]; rfl) | omega | (intros; (try dsimp only [Ty.T, Ty.size]); (try simp only [castL_self, Int.toNat_natCast, Int.toNat_zero, Int.toNat_one, true_and, List.length_append, List.length_set, List.length_drop, List.length_take, List.length_replicate, List.length_cons, List.length_nil, Nat.zero_add, Nat.mul_one]); omega) | decide | (intros; simp_all; done) | (intros; simp_all; omega)) ?_
        refine ⟨n0 - 1, i + 1, [], by omega, by omega, ⟨by decide, rfl⟩, trivial, ?_⟩
        repeat' first | (show (1 : Int) = _; rw [hbd]; exact seqE_next h1.2) | (show (6 : Int) = _; rw [hbd]; exact seqE_next h1.2) | (show seqE (polB P A N S f) (polSt P f) i = _; rw [h1.2, hbd]; exact seqE_next h1.2) | exact True.intro | exact rfl | exact ⟨rfl, rfl⟩ | refine And.intro ?_ ?_
      · try dsimp only [Ty.T] at h2
        try simp only [castL_self] at h2
        try simp only [Int.toNat_natCast] at h2
        try simp only [Int.toNat_zero] at h2
        have hm2 : maskB (f.getD i 0) P = true := by simpa using h2
        have hml := mask_le hm2 (by omega)
        refine AWPD.seq fun K19 hK19 => ?_
        -- region 9
        refine AWPD.keep [1, 2, 5, 6] rfl ?_
        refine AWPD.region tabOK rfl ?_
        repeat refine And.intro (by first | exact fun h => h | exact fun _ => rfl | (intro h; rw [h]; rfl) | omega | (intros; (try dsimp only [Ty.T, Ty.size]); (try simp only [castL_self, Int.toNat_natCast, Int.toNat_zero, Int.toNat_one, true_and, List.length_append, List.length_set, List.length_drop, List.length_take, List.length_replicate, List.length_cons, List.length_nil, Nat.zero_add, Nat.mul_one]); omega) | decide | (intros; simp_all; done) | (intros; simp_all; omega)) ?_
        refine Exists.intro _ (Exists.intro _ (And.intro (StepD.call (bit_fn (f.getD i 0) (i : Int) (by omega) (by omega)) rfl rfl rfl) (And.intro rfl (And.intro trivial ?_))))
        refine hK19 _ _ ?_
        clear hK19
        first | refine AWPD.cond rfl (fun h3 => ?_) (fun h3 => ?_)
        · try dsimp only [Ty.T] at h3
          try simp only [castL_self] at h3
          try simp only [Int.toNat_natCast] at h3
          try simp only [Int.toNat_zero] at h3
          have hbd : (6 : Int) = polSt P f i := by unfold polSt; rw [if_neg (fun h => h hm2), if_neg (by simpa using h3)]
          -- region 10
          refine AWPD.keep [1, 2, 6] rfl ?_
          refine AWPD.region tabOK rfl ?_
          refine hK17 _ _ ?_
          clear hK17
          -- region 6
          refine AWPD.keep [1, 2, 5, 6] rfl ?_
          refine AWPD.region tabOK rfl ?_
          repeat refine And.intro (by first | exact fun h => h | exact fun _ => rfl | (intro h; rw [h]; rfl) | omega | (intros; (try dsimp only [Ty.T, Ty.size]); (try simp only [castL_self, Int.toNat_natCast, Int.toNat_zero, Int.toNat_one, true_and, List.length_append, List.length_set, List.length_drop, List.length_take, List.length_replicate, List.length_cons, List.length_nil, Nat.zero_add, Nat.mul_one]); omega) | decide | (intros; simp_all; done) | (intros; simp_all; omega)) ?_
          refine ⟨n0 - 1, i + 1, [], by omega, by omega, ⟨by decide, rfl⟩, trivial, ?_⟩
          repeat' first | (show (1 : Int) = _; rw [hbd]; exact seqE_next h1.2) | (show (6 : Int) = _; rw [hbd]; exact seqE_next h1.2) | (show seqE (polB P A N S f) (polSt P f) i = _; rw [h1.2, hbd]; exact seqE_next h1.2) | exact True.intro | exact rfl | exact ⟨rfl, rfl⟩ | refine And.intro ?_ ?_
        · try dsimp only [Ty.T] at h3
          try simp only [castL_self] at h3
          try simp only [Int.toNat_natCast] at h3
          try simp only [Int.toNat_zero] at h3
          have hbd : (0 : Int) = polSt P f i := by unfold polSt; rw [if_neg (fun h => h hm2), if_pos (by simpa using h3)]
          refine AWPD.skip ?_
          refine hK17 _ _ ?_
          clear hK17
          -- region 6
          refine AWPD.keep [1, 2, 5, 6] rfl ?_
          refine AWPD.region tabOK rfl ?_
          repeat refine And.intro (by first | exact fun h => h | exact fun _ => rfl | (intro h; rw [h]; rfl) | omega | (intros; (try dsimp only [Ty.T, Ty.size]); (try simp only [castL_self, Int.toNat_natCast, Int.toNat_zero, Int.toNat_one, true_and, List.length_append, List.length_set, List.length_drop, List.length_take, List.length_replicate, List.length_cons, List.length_nil, Nat.zero_add, Nat.mul_one]); omega) | decide | (intros; simp_all; done) | (intros; simp_all; omega)) ?_
          refine ⟨n0 - 1, i + 1, [], by omega, by omega, ⟨by decide, rfl⟩, trivial, ?_⟩
          repeat' first | (show (1 : Int) = _; rw [hbd]; exact seqE_next h1.2) | (show (6 : Int) = _; rw [hbd]; exact seqE_next h1.2) | (show seqE (polB P A N S f) (polSt P f) i = _; rw [h1.2, hbd]; exact seqE_next h1.2) | exact True.intro | exact rfl | exact ⟨rfl, rfl⟩ | refine And.intro ?_ ?_
    · try dsimp only [Ty.T] at h1
      try simp only [castL_self] at h1
      try simp only [Int.toNat_natCast] at h1
      try simp only [Int.toNat_zero] at h1
      have he := seqE_end (b := polB P A N S f) (f := polSt P f) (i := i) (n := f.length) (by omega) (by omega)
      refine AWPD.exit ?_
      refine hK13 _ _ ?_
      clear hK13
      refine AWPD.seq fun K20 hK20 => ?_
      -- region 11
      refine AWPD.keep [5] rfl ?_
      refine AWPD.region tabOK rfl ?_
      refine hK20 _ _ ?_
      clear hK20
      refine AWPD.ret (And.intro (.inl rfl) ?_)
      -- result 1
      refine RetD.one ?_
      exact fitI rfl (by rw [he, pol_seq])
theorem rpart_fn (P : Int) (A : List Int) (N S : List (List Int)) (f : List Int) (part : Int) : LiftsD Tryd.prog 37 [.agg [.i P, .sl .int A, .sl (.sl .int) N, .sl (.sl .int) S], .sl .int f, .i part] (.i (chkE P A N S f part)) := by
  have hP5 : polE P A N S f = 0 → 1 ≤ P ∧ P ≤ 5 := fun h => (mach_good (pol_ok h).1).parts
  refine LiftsD.of_body 22 [.tmp 6] Tryd.func37 rfl Tryd.ntmps37 (by kernel_rfl) rfl rfl fun w0 X0 => ?_
  refine AWPD.seq fun K1 hK1 => ?_
  -- region 0
  refine AWPD.keep [0, 1, 2] rfl ?_
  refine AWPD.region tabOK rfl ?_
  refine hK1 _ _ ?_
  clear hK1
  refine AWPD.seq fun K2 hK2 => ?_
  -- region 1
  refine AWPD.keep [1, 2, 3] rfl ?_
  refine AWPD.region tabOK rfl ?_
  repeat refine And.intro (by first | (intro hc; have := hP5 (by simpa using hc); omega) | exact fun h => h | exact fun _ => rfl | (intro h; rw [h]; rfl) | omega | (intros; (try dsimp only [Ty.T, Ty.size]); (try simp only [castL_self, Int.toNat_natCast, Int.toNat_zero, Int.toNat_one, true_and, List.length_append, List.length_set, List.length_drop, List.length_take, List.length_replicate, List.length_cons, List.length_nil, Nat.zero_add, Nat.mul_one]); omega) | decide | (intros; simp_all; done) | (intros; simp_all; omega)) ?_
  refine Exists.intro _ (Exists.intro _ (And.intro (StepD.call (rpol_fn _ _ _ _ _) rfl rfl rfl) (And.intro rfl (And.intro trivial ?_))))
  refine hK2 _ _ ?_
  clear hK2
  refine AWPD.seq fun K3 hK3 => ?_
  refine AWPD.seq fun K4 hK4 => ?_
  -- region 2
  refine AWPD.keep [2, 3, 7] rfl ?_
  refine AWPD.region tabOK rfl ?_
  repeat refine And.intro (by first | (intro hc; have := hP5 (by simpa using hc); omega) | exact fun h => h | exact fun _ => rfl | (intro h; rw [h]; rfl) | omega | (intros; (try dsimp only [Ty.T, Ty.size]); (try simp only [castL_self, Int.toNat_natCast, Int.toNat_zero, Int.toNat_one, true_and, List.length_append, List.length_set, List.length_drop, List.length_take, List.length_replicate, List.length_cons, List.length_nil, Nat.zero_add, Nat.mul_one]); omega) | decide | (intros; simp_all; done) | (intros; simp_all; omega)) ?_
  refine Exists.intro _ (Exists.intro _ (And.intro (fun hg => StepD.call (in3_fn _ _ _) rfl rfl rfl) (And.intro (fun hf => rfl) (And.intro rfl (And.intro trivial ?_)))))
  repeat refine And.intro (by first | (intro hc; have := hP5 (by simpa using hc); omega) | exact fun h => h | exact fun _ => rfl | (intro h; rw [h]; rfl) | omega | (intros; (try dsimp only [Ty.T, Ty.size]); (try simp only [castL_self, Int.toNat_natCast, Int.toNat_zero, Int.toNat_one, true_and, List.length_append, List.length_set, List.length_drop, List.length_take, List.length_replicate, List.length_cons, List.length_nil, Nat.zero_add, Nat.mul_one]); omega) | decide | (intros; simp_all; done) | (intros; simp_all; omega)) ?_
  refine hK4 _ _ ?_
  clear hK4
  first | refine AWPD.cond rfl (fun h0 => ?_) (fun h0 => ?_)
  · try dsimp only [Ty.T] at h0
    try simp only [castL_self] at h0
    try simp only [Int.toNat_natCast] at h0
    try simp only [Int.toNat_zero] at h0
    try simp only [Bool.cond_true_left, Bool.cond_false_right, Bool.cond_true_right, Bool.cond_false_left, Bool.or_eq_true, Bool.and_eq_true, decide_eq_true_eq, Bool.or_eq_false_iff, Bool.and_eq_false_iff, decide_eq_false_iff_not, Bool.not_eq_true', Bool.not_eq_false', Bool.not_eq_eq_eq_not, Bool.not_true, Bool.not_false] at h0
    -- region 3
    refine AWPD.keep [] rfl ?_
    refine AWPD.region tabOK rfl ?_
    refine hK3 _ _ ?_
    clear hK3
    refine AWPD.seq fun K5 hK5 => ?_
    -- region 4
    refine AWPD.keep [7] rfl ?_
    refine AWPD.region tabOK rfl ?_
    refine hK5 _ _ ?_
    clear hK5
    refine AWPD.ret (And.intro (.inl rfl) ?_)
    -- result 0
    refine RetD.one ?_
    exact fitI rfl (by unfold chkE; rw [if_neg (by omega), if_neg (by omega)])
  · try dsimp only [Ty.T] at h0
    try simp only [castL_self] at h0
    try simp only [Int.toNat_natCast] at h0
    try simp only [Int.toNat_zero] at h0
    try simp only [Bool.cond_true_left, Bool.cond_false_right, Bool.cond_true_right, Bool.cond_false_left, Bool.or_eq_true, Bool.and_eq_true, decide_eq_true_eq, Bool.or_eq_false_iff, Bool.and_eq_false_iff, decide_eq_false_iff_not, Bool.not_eq_true', Bool.not_eq_false', Bool.not_eq_eq_eq_not, Bool.not_true, Bool.not_false] at h0
    refine AWPD.skip ?_
    refine hK3 _ _ ?_
    clear hK3
    refine AWPD.seq fun K6 hK6 => ?_
    -- region 4
    refine AWPD.keep [7] rfl ?_
    refine AWPD.region tabOK rfl ?_
    refine hK6 _ _ ?_
    clear hK6
    refine AWPD.ret (And.intro (.inl rfl) ?_)
    -- result 1
    refine RetD.one ?_
    exact fitI rfl (by
      unfold chkE
      by_cases hz : polE P A N S f = 0
      · rw [if_neg (fun h => h hz), if_pos (by by_cases hp : 0 ≤ part ∧ part ≤ P - 1; exact hp; simp [hz, hp] at h0), hz]
      · rw [if_pos hz])
theorem rrun_fn (P : Int) (A : List Int) (N S : List (List Int)) (s : Int) (w : List Int) (he : runE P A N S s w = 0) : LiftsD Tryd.prog 35 [.agg [.i P, .sl .int A, .sl (.sl .int) N, .sl (.sl .int) S], .i s, .sl .int w] (.i (runN N s w w.length)) := by
  obtain ⟨hw0, hs⟩ := run_ok he
  obtain ⟨hm, hw40, hw⟩ := word_ok hw0
  have g := mach_good hm
  have g16 := g.few
  have gs := g.some
  refine LiftsD.of_body 26 [.tmp 6] Tryd.func35 rfl Tryd.ntmps35 (by kernel_rfl) rfl rfl fun w0 X0 => ?_
  refine AWPD.seq fun K1 hK1 => ?_
  -- region 0
  refine AWPD.keep [0, 1, 2] rfl ?_
  refine AWPD.region tabOK rfl ?_
  refine hK1 _ _ ?_
  clear hK1
  refine AWPD.seq fun K2 hK2 => ?_
  refine AWPD.seq fun K3 hK3 => ?_
  -- region 1
  refine AWPD.keep [1, 2, 3] rfl ?_
  refine AWPD.region tabOK rfl ?_
  refine hK3 _ _ ?_
  clear hK3
  refine AWPD.block ?_
  -- LOOP 0 live [1, 2, 3, 7] changed [1, 7]
  refine AWPD.loopK (σ := Nat) [2, 3] (fun i base => (1, .i (runN N s w i)) :: (7, .i (i : Int)) :: base) (fun _ => []) (fun n i => n + i = w.length) (w.length) 0 [] rfl rfl (by omega) (by decide) trivial (by repeat' first | exact True.intro | exact rfl | exact ⟨rfl, rfl⟩ | refine And.intro ?_ ?_) fun n0 i hI0 => ?_
  have hn0 := hI0
  refine AWPD.seq fun K4 hK4 => ?_
  refine AWPD.seq fun K5 hK5 => ?_
  -- region 2
  refine AWPD.keep [1, 2, 3, 7] rfl ?_
  refine AWPD.region tabOK rfl ?_
  refine hK5 _ _ ?_
  clear hK5
  first | refine AWPD.condP rfl (fun h0 => ?_) (fun h0 => ?_) | refine AWPD.condN rfl (fun h0 => ?_) (fun h0 => ?_) | refine AWPD.condAP rfl (fun h0 => ?_) (fun h0 => ?_) | refine AWPD.condOP rfl (fun h0 => ?_) (fun h0 => ?_) | refine AWPD.condONN rfl (fun h0 => ?_) (fun h0 => ?_) | refine AWPD.condOPN rfl (fun h0 => ?_) (fun h0 => ?_) | refine AWPD.condA rfl (fun h0 => ?_) (fun h0 => ?_) | refine AWPD.condO rfl (fun h0 => ?_) (fun h0 => ?_) | refine AWPD.cond rfl (fun h0 => ?_) (fun h0 => ?_)
  · try dsimp only [Ty.T] at h0
    try simp only [castL_self] at h0
    try simp only [Int.toNat_natCast] at h0
    try simp only [Int.toNat_zero] at h0
    have hri := runN_in g hs hw i (by omega)
    have hai := hw i (by omega)
    have hrow := g.rowN (runN N s w i).toNat (by omega)
    refine AWPD.skip ?_
    refine hK4 _ _ ?_
    clear hK4
    refine AWPD.seq fun K6 hK6 => ?_
    refine AWPD.block ?_
    -- region 4
    refine AWPD.keep [1, 2, 3, 7] rfl ?_
    refine AWPD.draw tabOK [] rfl (by kernel_rfl) ?_
    repeat refine And.intro (by first | exact fun h => h | exact fun _ => rfl | (intro h; rw [h]; rfl) | omega | (intros; (try dsimp only [Ty.T, Ty.size]); (try simp only [castL_self, Int.toNat_natCast, Int.toNat_zero, Int.toNat_one, true_and, List.length_append, List.length_set, List.length_drop, List.length_take, List.length_replicate, List.length_cons, List.length_nil, Nat.zero_add, Nat.mul_one]); omega) | decide | (intros; simp_all; done) | (intros; simp_all; omega)) ?_
    refine hK6 _ _ ?_
    clear hK6
    -- region 3
    refine AWPD.keep [1, 2, 3, 7] rfl ?_
    refine AWPD.region tabOK rfl ?_
    repeat refine And.intro (by first | exact fun h => h | exact fun _ => rfl | (intro h; rw [h]; rfl) | omega | (intros; (try dsimp only [Ty.T, Ty.size]); (try simp only [castL_self, Int.toNat_natCast, Int.toNat_zero, Int.toNat_one, true_and, List.length_append, List.length_set, List.length_drop, List.length_take, List.length_replicate, List.length_cons, List.length_nil, Nat.zero_add, Nat.mul_one]); omega) | decide | (intros; simp_all; done) | (intros; simp_all; omega)) ?_
    refine ⟨n0 - 1, i + 1, [], by omega, by omega, ⟨by decide, rfl⟩, trivial, ?_⟩
    repeat' first | exact True.intro | exact rfl | exact ⟨rfl, rfl⟩ | refine And.intro ?_ ?_
  · try dsimp only [Ty.T] at h0
    try simp only [castL_self] at h0
    try simp only [Int.toNat_natCast] at h0
    try simp only [Int.toNat_zero] at h0
    refine AWPD.exit ?_
    refine hK2 _ _ ?_
    clear hK2
    refine AWPD.seq fun K7 hK7 => ?_
    -- region 5
    refine AWPD.keep [1] rfl ?_
    refine AWPD.region tabOK rfl ?_
    refine hK7 _ _ ?_
    clear hK7
    refine AWPD.ret (And.intro (.inl rfl) ?_)
    -- result 0
    refine RetD.one ?_
    exact fitI rfl (by rw [show i = w.length by omega])
end Go.Proofs.YtndoigkmdcgjfaaDoor
