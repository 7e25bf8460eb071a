/-
  WALKS of the document's answers on ciphers, and of the law on them. Laid by a program of mine out of the operations, with the loops and results told by hand.
-/
import Derived.Test.YtdikoipldcjcpaaDoorQwCiN
import Derived.Test.YtdikoipldcjcpaaDoorQwEr
namespace Go.Proofs.YtdikoipldcjcpaaDoor
open Go Go.Qw
set_option maxRecDepth 10000
set_option linter.unusedSimpArgs false
set_option linter.unusedVariables false

theorem in4_fn (n lo hi : Int) : LiftsD Tryd.prog 27 [.i n, .i lo, .i hi] (.b (decide (lo ≤ n ∧ n ≤ hi))) := by
  refine LiftsD.of_body 15 [.tmp 6] Tryd.func27 rfl Tryd.ntmps27 (by kernel_rfl) rfl rfl fun w0 X0 => ?_
  refine AWPD.seq fun K1 hK1 => ?_
  -- region 0
  refine AWPD.keep [0, 1, 2] rfl ?_
  refine AWPD.region tabOK rfl ?_
  refine hK1 _ _ ?_
  clear hK1
  refine AWPD.seq fun K2 hK2 => ?_
  -- region 1
  refine AWPD.keep [0, 1, 2] rfl ?_
  refine AWPD.region tabOK rfl ?_
  repeat refine And.intro (by first | exact fun h => h | exact fun _ => rfl | (intro h; rw [h]; rfl) | omega | ((try dsimp only [Ty.T]); (try simp only [castL_self]); (try simp only [Int.toNat_natCast]); (try simp only [Int.toNat_zero]); (try simp only [true_and]); omega) | (intros; (try dsimp only [Ty.T]); (try simp only [castL_self]); (try simp only [Int.toNat_natCast]); (try simp only [Int.toNat_zero]); (try simp only [true_and]); omega) | ((try dsimp only [Ty.T, Ty.size]); (try simp only [castL_self, Int.toNat_natCast, Int.toNat_zero, true_and, List.length_append, List.length_set, List.length_cons, List.length_nil, Nat.zero_add, Nat.mul_one]); omega) | ((try dsimp only [Ty.T, Ty.size]); (try simp only [castL_self, Int.toNat_natCast, Int.toNat_zero, Int.toNat_one, true_and, List.length_append, List.length_set, List.length_drop, List.length_take, List.length_replicate, List.length_cons, List.length_nil, Nat.zero_add, Nat.mul_one]); omega) | decide | (intros; simp_all; done) | (intros; simp_all; omega)) ?_
  refine hK2 _ _ ?_
  clear hK2
  refine AWPD.ret (And.intro (.inl rfl) ?_)
  -- result 0
  refine RetD.one ?_
  refine fitB rfl ?_
  show (bif decide (lo ≤ n) then decide (n ≤ hi) else false) = decide (lo ≤ n ∧ n ≤ hi)
  simp
theorem rcipher_fn (t : List (List Int)) : LiftsD Tryd.prog 6 [.sl (.sl .int) t] (.i (chk t)) := by
  refine LiftsD.of_body 73 [.tmp 2] Tryd.func6 rfl Tryd.ntmps6 (by kernel_rfl) rfl rfl fun w0 X0 => ?_
  refine AWPD.seq fun K1 hK1 => ?_
  -- region 0
  refine AWPD.keep [0] rfl ?_
  refine AWPD.region tabOK rfl ?_
  refine hK1 _ _ ?_
  clear hK1
  refine AWPD.seq fun K2 hK2 => ?_
  refine AWPD.seq fun K3 hK3 => ?_
  -- region 1
  refine AWPD.keep [0] rfl ?_
  refine AWPD.region tabOK rfl ?_
  refine hK3 _ _ ?_
  clear hK3
  first | refine AWPD.condP rfl (fun h0 => ?_) (fun h0 => ?_) | refine AWPD.condN rfl (fun h0 => ?_) (fun h0 => ?_) | refine AWPD.condAP rfl (fun h0 => ?_) (fun h0 => ?_) | refine AWPD.condOP rfl (fun h0 => ?_) (fun h0 => ?_) | refine AWPD.condONN rfl (fun h0 => ?_) (fun h0 => ?_) | refine AWPD.condOPN rfl (fun h0 => ?_) (fun h0 => ?_) | refine AWPD.condA rfl (fun h0 => ?_) (fun h0 => ?_) | refine AWPD.condO rfl (fun h0 => ?_) (fun h0 => ?_) | refine AWPD.cond rfl (fun h0 => ?_) (fun h0 => ?_)
  · try dsimp only [Ty.T] at h0
    try simp only [castL_self] at h0
    try simp only [Int.toNat_natCast] at h0
    try simp only [Int.toNat_zero] at h0
    refine AWPD.seq fun K4 hK4 => ?_
    -- region 2
    refine AWPD.keep [] rfl ?_
    refine AWPD.region tabOK rfl ?_
    refine hK4 _ _ ?_
    clear hK4
    refine AWPD.ret (And.intro (.inl rfl) ?_)
    -- result 0
    refine RetD.one ?_
    exact fitI rfl (by unfold chk; rw [if_pos (by omega)])
  · try dsimp only [Ty.T] at h0
    try simp only [castL_self] at h0
    try simp only [Int.toNat_natCast] at h0
    try simp only [Int.toNat_zero] at h0
    refine AWPD.skip ?_
    refine hK2 _ _ ?_
    clear hK2
    refine AWPD.seq fun K5 hK5 => ?_
    refine AWPD.seq fun K6 hK6 => ?_
    -- region 3
    refine AWPD.keep [0] rfl ?_
    refine AWPD.region tabOK rfl ?_
    repeat refine And.intro (by first | exact fun h => h | exact fun _ => rfl | (intro h; rw [h]; rfl) | omega | ((try dsimp only [Ty.T]); (try simp only [castL_self]); (try simp only [Int.toNat_natCast]); (try simp only [Int.toNat_zero]); (try simp only [true_and]); omega) | (intros; (try dsimp only [Ty.T]); (try simp only [castL_self]); (try simp only [Int.toNat_natCast]); (try simp only [Int.toNat_zero]); (try simp only [true_and]); omega) | ((try dsimp only [Ty.T, Ty.size]); (try simp only [castL_self, Int.toNat_natCast, Int.toNat_zero, true_and, List.length_append, List.length_set, List.length_cons, List.length_nil, Nat.zero_add, Nat.mul_one]); omega) | ((try dsimp only [Ty.T, Ty.size]); (try simp only [castL_self, Int.toNat_natCast, Int.toNat_zero, Int.toNat_one, true_and, List.length_append, List.length_set, List.length_drop, List.length_take, List.length_replicate, List.length_cons, List.length_nil, Nat.zero_add, Nat.mul_one]); omega) | decide | (intros; simp_all; done) | (intros; simp_all; omega)) ?_
    refine hK6 _ _ ?_
    clear hK6
    first | refine AWPD.condP rfl (fun h1 => ?_) (fun h1 => ?_) | refine AWPD.condN rfl (fun h1 => ?_) (fun h1 => ?_) | refine AWPD.condAP rfl (fun h1 => ?_) (fun h1 => ?_) | refine AWPD.condOP rfl (fun h1 => ?_) (fun h1 => ?_) | refine AWPD.condONN rfl (fun h1 => ?_) (fun h1 => ?_) | refine AWPD.condOPN rfl (fun h1 => ?_) (fun h1 => ?_) | refine AWPD.condA rfl (fun h1 => ?_) (fun h1 => ?_) | refine AWPD.condO rfl (fun h1 => ?_) (fun h1 => ?_) | refine AWPD.cond rfl (fun h1 => ?_) (fun h1 => ?_)
    · try dsimp only [Ty.T] at h1
      try simp only [castL_self] at h1
      try simp only [Int.toNat_natCast] at h1
      try simp only [Int.toNat_zero] at h1
      refine AWPD.seq fun K7 hK7 => ?_
      -- region 4
      refine AWPD.keep [] rfl ?_
      refine AWPD.region tabOK rfl ?_
      refine hK7 _ _ ?_
      clear hK7
      refine AWPD.ret (And.intro (.inl rfl) ?_)
      -- result 1
      refine RetD.one ?_
      exact fitI rfl (by unfold chk; rw [if_neg (by omega), if_pos (by omega)])
    · try dsimp only [Ty.T] at h1
      try simp only [castL_self] at h1
      try simp only [Int.toNat_natCast] at h1
      try simp only [Int.toNat_zero] at h1
      refine AWPD.skip ?_
      refine hK5 _ _ ?_
      clear hK5
      refine AWPD.seq fun K8 hK8 => ?_
      refine AWPD.seq fun K9 hK9 => ?_
      -- region 5
      refine AWPD.keep [0] rfl ?_
      refine AWPD.region tabOK rfl ?_
      refine hK9 _ _ ?_
      clear hK9
      refine AWPD.block ?_
      -- LOOP 0 live [0, 3] changed [3]
      refine AWPD.loopK (σ := Nat) [0] (fun i base => (3, .i (i : Int)) :: base) (fun _ => []) (fun n i => n + i = t.length ∧ chk t = scanRows (t.getD 0 []).length (t.drop i)) (t.length) 0 [] rfl rfl (⟨by omega, by unfold chk; rw [if_neg (by omega), if_neg (by omega)]; rfl⟩) (by decide) trivial (by repeat' first | exact True.intro | exact rfl | exact ⟨rfl, rfl⟩ | refine And.intro ?_ ?_) fun n0 i hI0 => ?_
      obtain ⟨hn0, hv0⟩ := hI0
      refine AWPD.seq fun K10 hK10 => ?_
      refine AWPD.seq fun K11 hK11 => ?_
      -- region 6
      refine AWPD.keep [0, 3] rfl ?_
      refine AWPD.region tabOK rfl ?_
      refine hK11 _ _ ?_
      clear hK11
      first | refine AWPD.condP rfl (fun h2 => ?_) (fun h2 => ?_) | refine AWPD.condN rfl (fun h2 => ?_) (fun h2 => ?_) | refine AWPD.condAP rfl (fun h2 => ?_) (fun h2 => ?_) | refine AWPD.condOP rfl (fun h2 => ?_) (fun h2 => ?_) | refine AWPD.condONN rfl (fun h2 => ?_) (fun h2 => ?_) | refine AWPD.condOPN rfl (fun h2 => ?_) (fun h2 => ?_) | refine AWPD.condA rfl (fun h2 => ?_) (fun h2 => ?_) | refine AWPD.condO rfl (fun h2 => ?_) (fun h2 => ?_) | refine AWPD.cond rfl (fun h2 => ?_) (fun h2 => ?_)
      · try dsimp only [Ty.T] at h2
        try simp only [castL_self] at h2
        try simp only [Int.toNat_natCast] at h2
        try simp only [Int.toNat_zero] at h2
        refine AWPD.skip ?_
        refine hK10 _ _ ?_
        clear hK10
        refine AWPD.seq fun K12 hK12 => ?_
        refine AWPD.block ?_
        refine AWPD.seq fun K13 hK13 => ?_
        refine AWPD.seq fun K14 hK14 => ?_
        -- region 8
        refine AWPD.keep [0, 3] rfl ?_
        refine AWPD.draw tabOK [] rfl (by kernel_rfl) ?_
        repeat refine And.intro (by first | exact fun h => h | exact fun _ => rfl | (intro h; rw [h]; rfl) | omega | ((try dsimp only [Ty.T]); (try simp only [castL_self]); (try simp only [Int.toNat_natCast]); (try simp only [Int.toNat_zero]); (try simp only [true_and]); omega) | (intros; (try dsimp only [Ty.T]); (try simp only [castL_self]); (try simp only [Int.toNat_natCast]); (try simp only [Int.toNat_zero]); (try simp only [true_and]); omega) | ((try dsimp only [Ty.T, Ty.size]); (try simp only [castL_self, Int.toNat_natCast, Int.toNat_zero, true_and, List.length_append, List.length_set, List.length_cons, List.length_nil, Nat.zero_add, Nat.mul_one]); omega) | ((try dsimp only [Ty.T, Ty.size]); (try simp only [castL_self, Int.toNat_natCast, Int.toNat_zero, Int.toNat_one, true_and, List.length_append, List.length_set, List.length_drop, List.length_take, List.length_replicate, List.length_cons, List.length_nil, Nat.zero_add, Nat.mul_one]); omega) | decide | (intros; simp_all; done) | (intros; simp_all; omega)) ?_
        refine hK14 _ _ ?_
        clear hK14
        first | refine AWPD.condP rfl (fun h3 => ?_) (fun h3 => ?_) | refine AWPD.condN rfl (fun h3 => ?_) (fun h3 => ?_) | refine AWPD.condAP rfl (fun h3 => ?_) (fun h3 => ?_) | refine AWPD.condOP rfl (fun h3 => ?_) (fun h3 => ?_) | refine AWPD.condONN rfl (fun h3 => ?_) (fun h3 => ?_) | refine AWPD.condOPN rfl (fun h3 => ?_) (fun h3 => ?_) | refine AWPD.condA rfl (fun h3 => ?_) (fun h3 => ?_) | refine AWPD.condO rfl (fun h3 => ?_) (fun h3 => ?_) | refine AWPD.cond rfl (fun h3 => ?_) (fun h3 => ?_)
        · try dsimp only [Ty.T] at h3
          try simp only [castL_self] at h3
          try simp only [Int.toNat_natCast] at h3
          try simp only [Int.toNat_zero] at h3
          refine AWPD.seq fun K15 hK15 => ?_
          -- region 9
          refine AWPD.keep [] rfl ?_
          refine AWPD.region tabOK rfl ?_
          refine hK15 _ _ ?_
          clear hK15
          refine AWPD.ret (And.intro (.inl rfl) ?_)
          -- result 2
          refine RetD.one ?_
          exact fitI rfl (by rw [hv0, drop_cons (by omega) [], scanRows, if_pos (by omega)])
        · try dsimp only [Ty.T] at h3
          try simp only [castL_self] at h3
          try simp only [Int.toNat_natCast] at h3
          try simp only [Int.toNat_zero] at h3
          refine AWPD.skip ?_
          refine hK13 _ _ ?_
          clear hK13
          refine AWPD.seq fun K16 hK16 => ?_
          -- region 10
          refine AWPD.keep [0, 3] rfl ?_
          refine AWPD.region tabOK rfl ?_
          refine hK16 _ _ ?_
          clear hK16
          refine AWPD.block ?_
          -- LOOP 1 live [0, 3, 4] changed [4]
          refine AWPD.loopK (σ := Nat) [0, 3] (fun j base => (4, .i (j : Int)) :: base) (fun _ => []) (fun n j => n + j = (t.getD i []).length ∧ scanRow [] (t.getD i []) = scanRow ((t.getD i []).take j) ((t.getD i []).drop j)) ((t.getD i []).length) 0 [] rfl rfl (⟨by omega, by simp⟩) (by decide) trivial (by repeat' first | exact True.intro | exact rfl | exact ⟨rfl, rfl⟩ | refine And.intro ?_ ?_) fun n1 j hI1 => ?_
          obtain ⟨hn1, hv1⟩ := hI1
          refine AWPD.seq fun K17 hK17 => ?_
          refine AWPD.seq fun K18 hK18 => ?_
          -- region 11
          refine AWPD.keep [0, 3, 4] rfl ?_
          refine AWPD.region tabOK rfl ?_
          repeat refine And.intro (by first | exact fun h => h | exact fun _ => rfl | (intro h; rw [h]; rfl) | omega | ((try dsimp only [Ty.T]); (try simp only [castL_self]); (try simp only [Int.toNat_natCast]); (try simp only [Int.toNat_zero]); (try simp only [true_and]); omega) | (intros; (try dsimp only [Ty.T]); (try simp only [castL_self]); (try simp only [Int.toNat_natCast]); (try simp only [Int.toNat_zero]); (try simp only [true_and]); omega) | ((try dsimp only [Ty.T, Ty.size]); (try simp only [castL_self, Int.toNat_natCast, Int.toNat_zero, true_and, List.length_append, List.length_set, List.length_cons, List.length_nil, Nat.zero_add, Nat.mul_one]); omega) | ((try dsimp only [Ty.T, Ty.size]); (try simp only [castL_self, Int.toNat_natCast, Int.toNat_zero, Int.toNat_one, true_and, List.length_append, List.length_set, List.length_drop, List.length_take, List.length_replicate, List.length_cons, List.length_nil, Nat.zero_add, Nat.mul_one]); omega) | decide | (intros; simp_all; done) | (intros; simp_all; omega)) ?_
          refine hK18 _ _ ?_
          clear hK18
          first | refine AWPD.condP rfl (fun h4 => ?_) (fun h4 => ?_) | refine AWPD.condN rfl (fun h4 => ?_) (fun h4 => ?_) | refine AWPD.condAP rfl (fun h4 => ?_) (fun h4 => ?_) | refine AWPD.condOP rfl (fun h4 => ?_) (fun h4 => ?_) | refine AWPD.condONN rfl (fun h4 => ?_) (fun h4 => ?_) | refine AWPD.condOPN rfl (fun h4 => ?_) (fun h4 => ?_) | refine AWPD.condA rfl (fun h4 => ?_) (fun h4 => ?_) | refine AWPD.condO rfl (fun h4 => ?_) (fun h4 => ?_) | refine AWPD.cond rfl (fun h4 => ?_) (fun h4 => ?_)
          · try dsimp only [Ty.T] at h4
            try simp only [castL_self] at h4
            try simp only [Int.toNat_natCast] at h4
            try simp only [Int.toNat_zero] at h4
            refine AWPD.skip ?_
            refine hK17 _ _ ?_
            clear hK17
            refine AWPD.seq fun K19 hK19 => ?_
            refine AWPD.block ?_
            refine AWPD.seq fun K20 hK20 => ?_
            refine AWPD.seq fun K21 hK21 => ?_
            -- region 13
            refine AWPD.keep [0, 3, 4] rfl ?_
            refine AWPD.region tabOK rfl ?_
            repeat refine And.intro (by first | exact fun h => h | exact fun _ => rfl | (intro h; rw [h]; rfl) | omega | ((try dsimp only [Ty.T]); (try simp only [castL_self]); (try simp only [Int.toNat_natCast]); (try simp only [Int.toNat_zero]); (try simp only [true_and]); omega) | (intros; (try dsimp only [Ty.T]); (try simp only [castL_self]); (try simp only [Int.toNat_natCast]); (try simp only [Int.toNat_zero]); (try simp only [true_and]); omega) | ((try dsimp only [Ty.T, Ty.size]); (try simp only [castL_self, Int.toNat_natCast, Int.toNat_zero, true_and, List.length_append, List.length_set, List.length_cons, List.length_nil, Nat.zero_add, Nat.mul_one]); omega) | ((try dsimp only [Ty.T, Ty.size]); (try simp only [castL_self, Int.toNat_natCast, Int.toNat_zero, Int.toNat_one, true_and, List.length_append, List.length_set, List.length_drop, List.length_take, List.length_replicate, List.length_cons, List.length_nil, Nat.zero_add, Nat.mul_one]); omega) | decide | (intros; simp_all; done) | (intros; simp_all; omega)) ?_
            refine Exists.intro _ (Exists.intro _ (And.intro (StepD.call (in4_fn _ _ _) rfl rfl rfl) (And.intro rfl (And.intro trivial ?_))))
            refine hK21 _ _ ?_
            clear hK21
            first | refine AWPD.condP rfl (fun h5 => ?_) (fun h5 => ?_) | refine AWPD.condN rfl (fun h5 => ?_) (fun h5 => ?_) | refine AWPD.condAP rfl (fun h5 => ?_) (fun h5 => ?_) | refine AWPD.condOP rfl (fun h5 => ?_) (fun h5 => ?_) | refine AWPD.condONN rfl (fun h5 => ?_) (fun h5 => ?_) | refine AWPD.condOPN rfl (fun h5 => ?_) (fun h5 => ?_) | refine AWPD.condA rfl (fun h5 => ?_) (fun h5 => ?_) | refine AWPD.condO rfl (fun h5 => ?_) (fun h5 => ?_) | refine AWPD.cond rfl (fun h5 => ?_) (fun h5 => ?_)
            · try dsimp only [Ty.T] at h5
              try simp only [castL_self] at h5
              try simp only [Int.toNat_natCast] at h5
              try simp only [Int.toNat_zero] at h5
              refine AWPD.seq fun K22 hK22 => ?_
              -- region 14
              refine AWPD.keep [] rfl ?_
              refine AWPD.region tabOK rfl ?_
              refine hK22 _ _ ?_
              clear hK22
              refine AWPD.ret (And.intro (.inl rfl) ?_)
              -- result 3
              refine RetD.one ?_
              exact fitI rfl (by rw [hv0, drop_cons (by omega) [], scanRows, if_neg (by omega), hv1, drop_cons (by omega) 0, scanRow, if_neg h5]; rfl)
            · try dsimp only [Ty.T] at h5
              try simp only [castL_self] at h5
              try simp only [Int.toNat_natCast] at h5
              try simp only [Int.toNat_zero] at h5
              refine AWPD.skip ?_
              refine hK20 _ _ ?_
              clear hK20
              refine AWPD.seq fun K23 hK23 => ?_
              -- region 15
              refine AWPD.keep [0, 3, 4] rfl ?_
              refine AWPD.region tabOK rfl ?_
              refine hK23 _ _ ?_
              clear hK23
              refine AWPD.block ?_
              -- LOOP 2 live [0, 3, 4, 5] changed [5]
              refine AWPD.loopK (σ := Nat) [0, 3, 4] (fun k base => (5, .i (k : Int)) :: base) (fun _ => []) (fun n k => n + k = j ∧ ∀ q, q < k → (t.getD i []).getD q 0 ≠ (t.getD i []).getD j 0) (j) 0 [] rfl rfl (⟨by omega, by intro q hq; omega⟩) (by decide) trivial (by repeat' first | exact True.intro | exact rfl | exact ⟨rfl, rfl⟩ | refine And.intro ?_ ?_) fun n2 k hI2 => ?_
              obtain ⟨hn2, hv2⟩ := hI2
              refine AWPD.seq fun K24 hK24 => ?_
              refine AWPD.seq fun K25 hK25 => ?_
              -- region 16
              refine AWPD.keep [0, 3, 4, 5] rfl ?_
              refine AWPD.region tabOK rfl ?_
              refine hK25 _ _ ?_
              clear hK25
              first | refine AWPD.condP rfl (fun h6 => ?_) (fun h6 => ?_) | refine AWPD.condN rfl (fun h6 => ?_) (fun h6 => ?_) | refine AWPD.condAP rfl (fun h6 => ?_) (fun h6 => ?_) | refine AWPD.condOP rfl (fun h6 => ?_) (fun h6 => ?_) | refine AWPD.condONN rfl (fun h6 => ?_) (fun h6 => ?_) | refine AWPD.condOPN rfl (fun h6 => ?_) (fun h6 => ?_) | refine AWPD.condA rfl (fun h6 => ?_) (fun h6 => ?_) | refine AWPD.condO rfl (fun h6 => ?_) (fun h6 => ?_) | refine AWPD.cond rfl (fun h6 => ?_) (fun h6 => ?_)
              · try dsimp only [Ty.T] at h6
                try simp only [castL_self] at h6
                try simp only [Int.toNat_natCast] at h6
                try simp only [Int.toNat_zero] at h6
                refine AWPD.skip ?_
                refine hK24 _ _ ?_
                clear hK24
                refine AWPD.seq fun K26 hK26 => ?_
                refine AWPD.block ?_
                refine AWPD.seq fun K27 hK27 => ?_
                -- region 18
                refine AWPD.keep [0, 3, 4, 5] rfl ?_
                refine AWPD.draw tabOK [] rfl (by kernel_rfl) ?_
                repeat refine And.intro (by first | exact fun h => h | exact fun _ => rfl | (intro h; rw [h]; rfl) | omega | ((try dsimp only [Ty.T]); (try simp only [castL_self]); (try simp only [Int.toNat_natCast]); (try simp only [Int.toNat_zero]); (try simp only [true_and]); omega) | (intros; (try dsimp only [Ty.T]); (try simp only [castL_self]); (try simp only [Int.toNat_natCast]); (try simp only [Int.toNat_zero]); (try simp only [true_and]); omega) | ((try dsimp only [Ty.T, Ty.size]); (try simp only [castL_self, Int.toNat_natCast, Int.toNat_zero, true_and, List.length_append, List.length_set, List.length_cons, List.length_nil, Nat.zero_add, Nat.mul_one]); omega) | ((try dsimp only [Ty.T, Ty.size]); (try simp only [castL_self, Int.toNat_natCast, Int.toNat_zero, Int.toNat_one, true_and, List.length_append, List.length_set, List.length_drop, List.length_take, List.length_replicate, List.length_cons, List.length_nil, Nat.zero_add, Nat.mul_one]); omega) | decide | (intros; simp_all; done) | (intros; simp_all; omega)) ?_
                refine hK27 _ _ ?_
                clear hK27
                first | refine AWPD.condP rfl (fun h7 => ?_) (fun h7 => ?_) | refine AWPD.condN rfl (fun h7 => ?_) (fun h7 => ?_) | refine AWPD.condAP rfl (fun h7 => ?_) (fun h7 => ?_) | refine AWPD.condOP rfl (fun h7 => ?_) (fun h7 => ?_) | refine AWPD.condONN rfl (fun h7 => ?_) (fun h7 => ?_) | refine AWPD.condOPN rfl (fun h7 => ?_) (fun h7 => ?_) | refine AWPD.condA rfl (fun h7 => ?_) (fun h7 => ?_) | refine AWPD.condO rfl (fun h7 => ?_) (fun h7 => ?_) | refine AWPD.cond rfl (fun h7 => ?_) (fun h7 => ?_)
                · try dsimp only [Ty.T] at h7
                  try simp only [castL_self] at h7
                  try simp only [Int.toNat_natCast] at h7
                  try simp only [Int.toNat_zero] at h7
                  refine AWPD.seq fun K28 hK28 => ?_
                  -- region 19
                  refine AWPD.keep [] rfl ?_
                  refine AWPD.region tabOK rfl ?_
                  refine hK28 _ _ ?_
                  clear hK28
                  refine AWPD.ret (And.intro (.inl rfl) ?_)
                  -- result 4
                  refine RetD.one ?_
                  have hin : (t.getD i []).getD j 0 ∈ List.take j (t.getD i []) := by
                    have h7 : (t.getD i []).getD k 0 = (t.getD i []).getD j 0 := h7
                    rw [← h7]
                    exact in_take (by omega) (by omega)
                  exact fitI rfl (by rw [hv0, drop_cons (by omega) [], scanRows, if_neg (by omega), hv1, drop_cons (by omega) 0, scanRow, if_pos h5, if_pos hin]; rfl)
                · try dsimp only [Ty.T] at h7
                  try simp only [castL_self] at h7
                  try simp only [Int.toNat_natCast] at h7
                  try simp only [Int.toNat_zero] at h7
                  refine AWPD.skip ?_
                  refine hK26 _ _ ?_
                  clear hK26
                  -- region 17
                  refine AWPD.keep [0, 3, 4, 5] rfl ?_
                  refine AWPD.region tabOK rfl ?_
                  repeat refine And.intro (by first | exact fun h => h | exact fun _ => rfl | (intro h; rw [h]; rfl) | omega | ((try dsimp only [Ty.T]); (try simp only [castL_self]); (try simp only [Int.toNat_natCast]); (try simp only [Int.toNat_zero]); (try simp only [true_and]); omega) | (intros; (try dsimp only [Ty.T]); (try simp only [castL_self]); (try simp only [Int.toNat_natCast]); (try simp only [Int.toNat_zero]); (try simp only [true_and]); omega) | ((try dsimp only [Ty.T, Ty.size]); (try simp only [castL_self, Int.toNat_natCast, Int.toNat_zero, true_and, List.length_append, List.length_set, List.length_cons, List.length_nil, Nat.zero_add, Nat.mul_one]); omega) | ((try dsimp only [Ty.T, Ty.size]); (try simp only [castL_self, Int.toNat_natCast, Int.toNat_zero, Int.toNat_one, true_and, List.length_append, List.length_set, List.length_drop, List.length_take, List.length_replicate, List.length_cons, List.length_nil, Nat.zero_add, Nat.mul_one]); omega) | decide | (intros; simp_all; done) | (intros; simp_all; omega)) ?_
                  refine ⟨n2 - 1, k + 1, [], by omega, ⟨by omega, fun q hq => by
                      rcases Nat.lt_or_ge q k with h | h
                      · exact hv2 q h
                      · have e : q = k := by omega
                        subst e
                        exact h7⟩, ⟨by decide, rfl⟩, trivial, ?_⟩
                  repeat' first | exact True.intro | exact rfl | exact ⟨rfl, rfl⟩ | refine And.intro ?_ ?_
              · try dsimp only [Ty.T] at h6
                try simp only [castL_self] at h6
                try simp only [Int.toNat_natCast] at h6
                try simp only [Int.toNat_zero] at h6
                refine AWPD.exit ?_
                refine hK19 _ _ ?_
                clear hK19
                -- region 12
                refine AWPD.keep [0, 3, 4] rfl ?_
                refine AWPD.region tabOK rfl ?_
                repeat refine And.intro (by first | exact fun h => h | exact fun _ => rfl | (intro h; rw [h]; rfl) | omega | ((try dsimp only [Ty.T]); (try simp only [castL_self]); (try simp only [Int.toNat_natCast]); (try simp only [Int.toNat_zero]); (try simp only [true_and]); omega) | (intros; (try dsimp only [Ty.T]); (try simp only [castL_self]); (try simp only [Int.toNat_natCast]); (try simp only [Int.toNat_zero]); (try simp only [true_and]); omega) | ((try dsimp only [Ty.T, Ty.size]); (try simp only [castL_self, Int.toNat_natCast, Int.toNat_zero, true_and, List.length_append, List.length_set, List.length_cons, List.length_nil, Nat.zero_add, Nat.mul_one]); omega) | ((try dsimp only [Ty.T, Ty.size]); (try simp only [castL_self, Int.toNat_natCast, Int.toNat_zero, Int.toNat_one, true_and, List.length_append, List.length_set, List.length_drop, List.length_take, List.length_replicate, List.length_cons, List.length_nil, Nat.zero_add, Nat.mul_one]); omega) | decide | (intros; simp_all; done) | (intros; simp_all; omega)) ?_
                refine ⟨n1 - 1, j + 1, [], by omega, ⟨by omega, by rw [hv1, drop_cons (by omega) 0, scanRow, if_pos h5, if_neg (not_in_take (by omega) (fun q hq => hv2 q (by omega))), ← take_snoc (by omega) 0]⟩, ⟨by decide, rfl⟩, trivial, ?_⟩
                repeat' first | exact True.intro | exact rfl | exact ⟨rfl, rfl⟩ | refine And.intro ?_ ?_
          · try dsimp only [Ty.T] at h4
            try simp only [castL_self] at h4
            try simp only [Int.toNat_natCast] at h4
            try simp only [Int.toNat_zero] at h4
            refine AWPD.exit ?_
            refine hK12 _ _ ?_
            clear hK12
            -- region 7
            refine AWPD.keep [0, 3] rfl ?_
            refine AWPD.region tabOK rfl ?_
            repeat refine And.intro (by first | exact fun h => h | exact fun _ => rfl | (intro h; rw [h]; rfl) | omega | ((try dsimp only [Ty.T]); (try simp only [castL_self]); (try simp only [Int.toNat_natCast]); (try simp only [Int.toNat_zero]); (try simp only [true_and]); omega) | (intros; (try dsimp only [Ty.T]); (try simp only [castL_self]); (try simp only [Int.toNat_natCast]); (try simp only [Int.toNat_zero]); (try simp only [true_and]); omega) | ((try dsimp only [Ty.T, Ty.size]); (try simp only [castL_self, Int.toNat_natCast, Int.toNat_zero, true_and, List.length_append, List.length_set, List.length_cons, List.length_nil, Nat.zero_add, Nat.mul_one]); omega) | ((try dsimp only [Ty.T, Ty.size]); (try simp only [castL_self, Int.toNat_natCast, Int.toNat_zero, Int.toNat_one, true_and, List.length_append, List.length_set, List.length_drop, List.length_take, List.length_replicate, List.length_cons, List.length_nil, Nat.zero_add, Nat.mul_one]); omega) | decide | (intros; simp_all; done) | (intros; simp_all; omega)) ?_
            refine ⟨n0 - 1, i + 1, [], by omega, ⟨by omega, by rw [hv0, drop_cons (by omega) [], scanRows, if_neg (by omega), hv1, List.drop_of_length_le (by omega), scanRow]; simp⟩, ⟨by decide, rfl⟩, trivial, ?_⟩
            repeat' first | exact True.intro | exact rfl | exact ⟨rfl, rfl⟩ | refine And.intro ?_ ?_
      · try dsimp only [Ty.T] at h2
        try simp only [castL_self] at h2
        try simp only [Int.toNat_natCast] at h2
        try simp only [Int.toNat_zero] at h2
        refine AWPD.exit ?_
        refine hK8 _ _ ?_
        clear hK8
        refine AWPD.seq fun K29 hK29 => ?_
        -- region 20
        refine AWPD.keep [] rfl ?_
        refine AWPD.region tabOK rfl ?_
        refine hK29 _ _ ?_
        clear hK29
        refine AWPD.ret (And.intro (.inl rfl) ?_)
        -- result 5
        refine RetD.one ?_
        exact fitI rfl (by rw [hv0, List.drop_of_length_le (by omega)]; rfl)

def colL (t : List (List Int)) (s : Int) (m : Nat) : List Int := (List.range m).map fun q => cnt t q s
theorem colL_step (t : List (List Int)) (s : Int) (m : Nat) : colL t s m ++ [cnt t m s] = colL t s (m + 1) := by
  unfold colL; rw [List.range_succ, List.map_append]; rfl
theorem colL_len (t : List (List Int)) (s : Int) (m : Nat) : (colL t s m).length = m := by simp [colL]
theorem colL_all {t : List (List Int)} {s : Int} (hc : chk t = 0) (h : 0 ≤ s ∧ s ≤ 23) : colL t s (t.getD 0 []).length = keysL t s := by
  rw [keysL_eq hc h]
  unfold colL tabl
  refine List.map_congr_left fun m _ => ?_
  rw [if_neg (by omega), List.take_length]
theorem cnt_yes {t : List (List Int)} {i : Nat} (hi : i < t.length) {m : Nat} {s : Int} (h : (t.getD i []).getD m 0 = s) : cnt (t.take i) m s + 1 = cnt (t.take (i + 1)) m s := by rw [cnt_snoc hi, if_pos h]
theorem cnt_no {t : List (List Int)} {i : Nat} (hi : i < t.length) {m : Nat} {s : Int} (h : ¬(t.getD i []).getD m 0 = s) : cnt (t.take i) m s = cnt (t.take (i + 1)) m s := by rw [cnt_snoc hi, if_neg h]; omega

theorem rkeys_fn (t : List (List Int)) (s : Int) (he : keysE t s = 0) : LiftsD Tryd.prog 12 [.sl (.sl .int) t, .i s] (.sl .int (keysL t s)) := by
  have hc : chk t = 0 := by
    unfold keysE at he
    split at he
    · rename_i h; exact absurd he h
    · omega
  have hs : 0 ≤ s ∧ s ≤ 23 := by
    unfold keysE at he
    rw [if_neg (by omega)] at he
    split at he
    · assumption
    · cases he
  obtain ⟨g1, g2, g3, g4, -, -⟩ := chk_good hc
  refine LiftsD.of_body 39 [.tmp 4] Tryd.func12 rfl Tryd.ntmps12 (by kernel_rfl) rfl rfl fun w0 X0 => ?_
  refine AWPD.seq fun K1 hK1 => ?_
  -- region 0
  refine AWPD.keep [0, 1] rfl ?_
  refine AWPD.region tabOK rfl ?_
  refine hK1 _ _ ?_
  clear hK1
  refine AWPD.seq fun K2 hK2 => ?_
  -- region 1
  refine AWPD.keep [0, 1] rfl ?_
  refine AWPD.region tabOK rfl ?_
  refine hK2 _ _ ?_
  clear hK2
  refine AWPD.seq fun K3 hK3 => ?_
  refine AWPD.seq fun K4 hK4 => ?_
  -- region 2
  refine AWPD.keep [0, 1, 5] rfl ?_
  refine AWPD.region tabOK rfl ?_
  refine hK4 _ _ ?_
  clear hK4
  refine AWPD.block ?_
  -- LOOP 0 live [0, 1, 5, 6] changed [5, 6]
  refine AWPD.nilRow 5 3 .int rfl (by decide) ?_
  refine AWPD.loopK (σ := Nat) [0, 1] (fun m base => (6, .i (m : Int)) :: (5, .ob 0) :: base) (fun m => [.row 3 .int (colL t s m)]) (fun n m => n + m = (t.getD 0 []).length) ((t.getD 0 []).length) 0 [0] rfl rfl (by omega) (by decide) ⟨⟨rfl, rfl, rfl⟩, trivial⟩ (by repeat' first | exact True.intro | exact rfl | exact ⟨rfl, rfl⟩ | refine And.intro ?_ ?_) fun n0 m hI0 => ?_
  have hn0 := hI0
  have hcl := colL_len t s m
  refine AWPD.seq fun K5 hK5 => ?_
  refine AWPD.seq fun K6 hK6 => ?_
  -- region 3
  refine AWPD.keep [0, 1, 5, 6] rfl ?_
  refine AWPD.region tabOK rfl ?_
  repeat refine And.intro (by first | exact fun h => h | exact fun _ => rfl | (intro h; rw [h]; rfl) | omega | ((try dsimp only [Ty.T]); (try simp only [castL_self]); (try simp only [Int.toNat_natCast]); (try simp only [Int.toNat_zero]); (try simp only [true_and]); omega) | (intros; (try dsimp only [Ty.T]); (try simp only [castL_self]); (try simp only [Int.toNat_natCast]); (try simp only [Int.toNat_zero]); (try simp only [true_and]); omega) | ((try dsimp only [Ty.T, Ty.size]); (try simp only [castL_self, Int.toNat_natCast, Int.toNat_zero, true_and, List.length_append, List.length_set, List.length_cons, List.length_nil, Nat.zero_add, Nat.mul_one]); omega) | ((try dsimp only [Ty.T, Ty.size]); (try simp only [castL_self, Int.toNat_natCast, Int.toNat_zero, Int.toNat_one, true_and, List.length_append, List.length_set, List.length_drop, List.length_take, List.length_replicate, List.length_cons, List.length_nil, Nat.zero_add, Nat.mul_one]); omega) | decide | (intros; simp_all; done) | (intros; simp_all; omega)) ?_
  refine hK6 _ _ ?_
  clear hK6
  first | refine AWPD.condP rfl (fun h0 => ?_) (fun h0 => ?_) | refine AWPD.condN rfl (fun h0 => ?_) (fun h0 => ?_) | refine AWPD.condAP rfl (fun h0 => ?_) (fun h0 => ?_) | refine AWPD.condOP rfl (fun h0 => ?_) (fun h0 => ?_) | refine AWPD.condONN rfl (fun h0 => ?_) (fun h0 => ?_) | refine AWPD.condOPN rfl (fun h0 => ?_) (fun h0 => ?_) | refine AWPD.condA rfl (fun h0 => ?_) (fun h0 => ?_) | refine AWPD.condO rfl (fun h0 => ?_) (fun h0 => ?_) | refine AWPD.cond rfl (fun h0 => ?_) (fun h0 => ?_)
  · try dsimp only [Ty.T] at h0
    try simp only [castL_self] at h0
    try simp only [Int.toNat_natCast] at h0
    try simp only [Int.toNat_zero] at h0
    refine AWPD.skip ?_
    refine hK5 _ _ ?_
    clear hK5
    refine AWPD.seq fun K7 hK7 => ?_
    refine AWPD.block ?_
    refine AWPD.seq fun K8 hK8 => ?_
    -- region 5
    refine AWPD.keep [0, 1, 5, 6] rfl ?_
    refine AWPD.region tabOK rfl ?_
    refine hK8 _ _ ?_
    clear hK8
    refine AWPD.seq fun K9 hK9 => ?_
    refine AWPD.seq fun K10 hK10 => ?_
    -- region 6
    refine AWPD.keep [0, 1, 5, 6, 7] rfl ?_
    refine AWPD.region tabOK rfl ?_
    refine hK10 _ _ ?_
    clear hK10
    refine AWPD.block ?_
    -- LOOP 1 live [0, 1, 5, 6, 7, 8] changed [7, 8]
    refine AWPD.loopK (σ := Nat) [0, 1, 6] (fun k base => (7, .i (cnt (t.take k) m s)) :: (8, .i (k : Int)) :: (5, .ob 0) :: base) (fun k => [.row 3 .int (colL t s m)]) (fun n k => n + k = t.length) (t.length) 0 [0] rfl rfl (by omega) (by decide) ⟨⟨rfl, rfl, rfl⟩, trivial⟩ (by repeat' first | (show (0 : Int) = cnt (t.take 0) m s; simp [cnt]) | exact True.intro | exact rfl | exact ⟨rfl, rfl⟩ | refine And.intro ?_ ?_) fun n1 k hI1 => ?_
    have hn1 := hI1
    refine AWPD.seq fun K11 hK11 => ?_
    refine AWPD.seq fun K12 hK12 => ?_
    -- region 7
    refine AWPD.keep [0, 1, 5, 6, 7, 8] rfl ?_
    refine AWPD.region tabOK rfl ?_
    refine hK12 _ _ ?_
    clear hK12
    first | refine AWPD.condP rfl (fun h1 => ?_) (fun h1 => ?_) | refine AWPD.condN rfl (fun h1 => ?_) (fun h1 => ?_) | refine AWPD.condAP rfl (fun h1 => ?_) (fun h1 => ?_) | refine AWPD.condOP rfl (fun h1 => ?_) (fun h1 => ?_) | refine AWPD.condONN rfl (fun h1 => ?_) (fun h1 => ?_) | refine AWPD.condOPN rfl (fun h1 => ?_) (fun h1 => ?_) | refine AWPD.condA rfl (fun h1 => ?_) (fun h1 => ?_) | refine AWPD.condO rfl (fun h1 => ?_) (fun h1 => ?_) | refine AWPD.cond rfl (fun h1 => ?_) (fun h1 => ?_)
    · try dsimp only [Ty.T] at h1
      try simp only [castL_self] at h1
      try simp only [Int.toNat_natCast] at h1
      try simp only [Int.toNat_zero] at h1
      have g5 := g4 k (by omega)
      have hb := cnt_le (t.take k) m s
      rw [List.length_take] at hb
      refine AWPD.skip ?_
      refine hK11 _ _ ?_
      clear hK11
      refine AWPD.seq fun K13 hK13 => ?_
      refine AWPD.block ?_
      refine AWPD.seq fun K14 hK14 => ?_
      -- region 9
      refine AWPD.keep [0, 1, 5, 6, 7, 8] rfl ?_
      refine AWPD.region tabOK rfl ?_
      repeat refine And.intro (by first | exact fun h => h | exact fun _ => rfl | (intro h; rw [h]; rfl) | omega | ((try dsimp only [Ty.T]); (try simp only [castL_self]); (try simp only [Int.toNat_natCast]); (try simp only [Int.toNat_zero]); (try simp only [true_and]); omega) | (intros; (try dsimp only [Ty.T]); (try simp only [castL_self]); (try simp only [Int.toNat_natCast]); (try simp only [Int.toNat_zero]); (try simp only [true_and]); omega) | ((try dsimp only [Ty.T, Ty.size]); (try simp only [castL_self, Int.toNat_natCast, Int.toNat_zero, true_and, List.length_append, List.length_set, List.length_cons, List.length_nil, Nat.zero_add, Nat.mul_one]); omega) | ((try dsimp only [Ty.T, Ty.size]); (try simp only [castL_self, Int.toNat_natCast, Int.toNat_zero, Int.toNat_one, true_and, List.length_append, List.length_set, List.length_drop, List.length_take, List.length_replicate, List.length_cons, List.length_nil, Nat.zero_add, Nat.mul_one]); omega) | decide | (intros; simp_all; done) | (intros; simp_all; omega)) ?_
      refine hK14 _ _ ?_
      clear hK14
      first | refine AWPD.condP rfl (fun h2 => ?_) (fun h2 => ?_) | refine AWPD.condN rfl (fun h2 => ?_) (fun h2 => ?_) | refine AWPD.condAP rfl (fun h2 => ?_) (fun h2 => ?_) | refine AWPD.condOP rfl (fun h2 => ?_) (fun h2 => ?_) | refine AWPD.condONN rfl (fun h2 => ?_) (fun h2 => ?_) | refine AWPD.condOPN rfl (fun h2 => ?_) (fun h2 => ?_) | refine AWPD.condA rfl (fun h2 => ?_) (fun h2 => ?_) | refine AWPD.condO rfl (fun h2 => ?_) (fun h2 => ?_) | refine AWPD.cond rfl (fun h2 => ?_) (fun h2 => ?_)
      · try dsimp only [Ty.T] at h2
        try simp only [castL_self] at h2
        try simp only [Int.toNat_natCast] at h2
        try simp only [Int.toNat_zero] at h2
        -- region 10
        refine AWPD.keep [0, 1, 5, 6, 7, 8] rfl ?_
        refine AWPD.region tabOK rfl ?_
        repeat refine And.intro (by first | exact fun h => h | exact fun _ => rfl | (intro h; rw [h]; rfl) | omega | ((try dsimp only [Ty.T]); (try simp only [castL_self]); (try simp only [Int.toNat_natCast]); (try simp only [Int.toNat_zero]); (try simp only [true_and]); omega) | (intros; (try dsimp only [Ty.T]); (try simp only [castL_self]); (try simp only [Int.toNat_natCast]); (try simp only [Int.toNat_zero]); (try simp only [true_and]); omega) | ((try dsimp only [Ty.T, Ty.size]); (try simp only [castL_self, Int.toNat_natCast, Int.toNat_zero, true_and, List.length_append, List.length_set, List.length_cons, List.length_nil, Nat.zero_add, Nat.mul_one]); omega) | ((try dsimp only [Ty.T, Ty.size]); (try simp only [castL_self, Int.toNat_natCast, Int.toNat_zero, Int.toNat_one, true_and, List.length_append, List.length_set, List.length_drop, List.length_take, List.length_replicate, List.length_cons, List.length_nil, Nat.zero_add, Nat.mul_one]); omega) | decide | (intros; simp_all; done) | (intros; simp_all; omega)) ?_
        refine hK13 _ _ ?_
        clear hK13
        -- region 8
        refine AWPD.keep [0, 1, 5, 6, 7, 8] rfl ?_
        refine AWPD.region tabOK rfl ?_
        repeat refine And.intro (by first | exact fun h => h | exact fun _ => rfl | (intro h; rw [h]; rfl) | omega | ((try dsimp only [Ty.T]); (try simp only [castL_self]); (try simp only [Int.toNat_natCast]); (try simp only [Int.toNat_zero]); (try simp only [true_and]); omega) | (intros; (try dsimp only [Ty.T]); (try simp only [castL_self]); (try simp only [Int.toNat_natCast]); (try simp only [Int.toNat_zero]); (try simp only [true_and]); omega) | ((try dsimp only [Ty.T, Ty.size]); (try simp only [castL_self, Int.toNat_natCast, Int.toNat_zero, true_and, List.length_append, List.length_set, List.length_cons, List.length_nil, Nat.zero_add, Nat.mul_one]); omega) | ((try dsimp only [Ty.T, Ty.size]); (try simp only [castL_self, Int.toNat_natCast, Int.toNat_zero, Int.toNat_one, true_and, List.length_append, List.length_set, List.length_drop, List.length_take, List.length_replicate, List.length_cons, List.length_nil, Nat.zero_add, Nat.mul_one]); omega) | decide | (intros; simp_all; done) | (intros; simp_all; omega)) ?_
        refine ⟨n1 - 1, k + 1, [0], by omega, by omega, ⟨by decide, rfl⟩, ⟨⟨rfl, rfl, rfl⟩, trivial⟩, ?_⟩
        repeat' first | exact cnt_yes (by omega) h2 | exact cnt_no (by omega) h2 | exact True.intro | exact rfl | exact ⟨rfl, rfl⟩ | refine And.intro ?_ ?_
      · try dsimp only [Ty.T] at h2
        try simp only [castL_self] at h2
        try simp only [Int.toNat_natCast] at h2
        try simp only [Int.toNat_zero] at h2
        refine AWPD.skip ?_
        refine hK13 _ _ ?_
        clear hK13
        -- region 8
        refine AWPD.keep [0, 1, 5, 6, 7, 8] rfl ?_
        refine AWPD.region tabOK rfl ?_
        repeat refine And.intro (by first | exact fun h => h | exact fun _ => rfl | (intro h; rw [h]; rfl) | omega | ((try dsimp only [Ty.T]); (try simp only [castL_self]); (try simp only [Int.toNat_natCast]); (try simp only [Int.toNat_zero]); (try simp only [true_and]); omega) | (intros; (try dsimp only [Ty.T]); (try simp only [castL_self]); (try simp only [Int.toNat_natCast]); (try simp only [Int.toNat_zero]); (try simp only [true_and]); omega) | ((try dsimp only [Ty.T, Ty.size]); (try simp only [castL_self, Int.toNat_natCast, Int.toNat_zero, true_and, List.length_append, List.length_set, List.length_cons, List.length_nil, Nat.zero_add, Nat.mul_one]); omega) | ((try dsimp only [Ty.T, Ty.size]); (try simp only [castL_self, Int.toNat_natCast, Int.toNat_zero, Int.toNat_one, true_and, List.length_append, List.length_set, List.length_drop, List.length_take, List.length_replicate, List.length_cons, List.length_nil, Nat.zero_add, Nat.mul_one]); omega) | decide | (intros; simp_all; done) | (intros; simp_all; omega)) ?_
        refine ⟨n1 - 1, k + 1, [0], by omega, by omega, ⟨by decide, rfl⟩, ⟨⟨rfl, rfl, rfl⟩, trivial⟩, ?_⟩
        repeat' first | exact cnt_yes (by omega) h2 | exact cnt_no (by omega) h2 | exact True.intro | exact rfl | exact ⟨rfl, rfl⟩ | refine And.intro ?_ ?_
    · try dsimp only [Ty.T] at h1
      try simp only [castL_self] at h1
      try simp only [Int.toNat_natCast] at h1
      try simp only [Int.toNat_zero] at h1
      refine AWPD.exit ?_
      refine hK9 _ _ ?_
      clear hK9
      -- region 11
      refine AWPD.keep [0, 1, 5, 6, 7] rfl ?_
      refine AWPD.region tabOK rfl ?_
      repeat refine And.intro (by first | exact fun h => h | exact fun _ => rfl | (intro h; rw [h]; rfl) | omega | ((try dsimp only [Ty.T]); (try simp only [castL_self]); (try simp only [Int.toNat_natCast]); (try simp only [Int.toNat_zero]); (try simp only [true_and]); omega) | (intros; (try dsimp only [Ty.T]); (try simp only [castL_self]); (try simp only [Int.toNat_natCast]); (try simp only [Int.toNat_zero]); (try simp only [true_and]); omega) | ((try dsimp only [Ty.T, Ty.size]); (try simp only [castL_self, Int.toNat_natCast, Int.toNat_zero, true_and, List.length_append, List.length_set, List.length_cons, List.length_nil, Nat.zero_add, Nat.mul_one]); omega) | ((try dsimp only [Ty.T, Ty.size]); (try simp only [castL_self, Int.toNat_natCast, Int.toNat_zero, Int.toNat_one, true_and, List.length_append, List.length_set, List.length_drop, List.length_take, List.length_replicate, List.length_cons, List.length_nil, Nat.zero_add, Nat.mul_one]); omega) | decide | (intros; simp_all; done) | (intros; simp_all; omega)) ?_
      refine hK7 _ _ ?_
      clear hK7
      -- region 4
      refine AWPD.keep [0, 1, 5, 6] rfl ?_
      refine AWPD.region tabOK rfl ?_
      repeat refine And.intro (by first | exact fun h => h | exact fun _ => rfl | (intro h; rw [h]; rfl) | omega | ((try dsimp only [Ty.T]); (try simp only [castL_self]); (try simp only [Int.toNat_natCast]); (try simp only [Int.toNat_zero]); (try simp only [true_and]); omega) | (intros; (try dsimp only [Ty.T]); (try simp only [castL_self]); (try simp only [Int.toNat_natCast]); (try simp only [Int.toNat_zero]); (try simp only [true_and]); omega) | ((try dsimp only [Ty.T, Ty.size]); (try simp only [castL_self, Int.toNat_natCast, Int.toNat_zero, true_and, List.length_append, List.length_set, List.length_cons, List.length_nil, Nat.zero_add, Nat.mul_one]); omega) | ((try dsimp only [Ty.T, Ty.size]); (try simp only [castL_self, Int.toNat_natCast, Int.toNat_zero, Int.toNat_one, true_and, List.length_append, List.length_set, List.length_drop, List.length_take, List.length_replicate, List.length_cons, List.length_nil, Nat.zero_add, Nat.mul_one]); omega) | decide | (intros; simp_all; done) | (intros; simp_all; omega)) ?_
      refine ⟨n0 - 1, m + 1, [1], by omega, by omega, ⟨by decide, rfl⟩, ⟨⟨rfl, rfl, by rw [← colL_step, show cnt t m s = cnt (t.take k) m s by rw [List.take_of_length_le (by omega)]]; rfl⟩, trivial⟩, ?_⟩
      repeat' first | exact True.intro | exact rfl | exact ⟨rfl, rfl⟩ | refine And.intro ?_ ?_
  · try dsimp only [Ty.T] at h0
    try simp only [castL_self] at h0
    try simp only [Int.toNat_natCast] at h0
    try simp only [Int.toNat_zero] at h0
    refine AWPD.exit ?_
    refine hK3 _ _ ?_
    clear hK3
    refine AWPD.seq fun K15 hK15 => ?_
    -- region 12
    refine AWPD.keep [5] rfl ?_
    refine AWPD.region tabOK rfl ?_
    refine hK15 _ _ ?_
    clear hK15
    refine AWPD.ret (And.intro (.inl rfl) ?_)
    -- result 0
    refine RetD.one ?_
    exact fitR rfl rfl (by rw [← colL_all hc hs, show m = (t.getD 0 []).length by omega])
theorem rperf_fn (t : List (List Int)) (hc : chk t = 0) : LiftsD Tryd.prog 9 [.sl (.sl .int) t] (.b (perfB t)) := by
  obtain ⟨g1, g2, g3, g4, -, -⟩ := chk_good hc
  refine LiftsD.of_body 29 [.tmp 2] Tryd.func9 rfl Tryd.ntmps9 (by kernel_rfl) rfl rfl fun w0 X0 => ?_
  refine AWPD.seq fun K1 hK1 => ?_
  -- region 0
  refine AWPD.keep [0] rfl ?_
  refine AWPD.region tabOK rfl ?_
  refine hK1 _ _ ?_
  clear hK1
  refine AWPD.seq fun K2 hK2 => ?_
  refine AWPD.seq fun K3 hK3 => ?_
  -- region 1
  refine AWPD.keep [0] rfl ?_
  refine AWPD.region tabOK rfl ?_
  refine hK3 _ _ ?_
  clear hK3
  refine AWPD.block ?_
  -- LOOP 0 live [0, 3] changed [3]
  refine AWPD.loopK (σ := Nat) [0] (fun s base => (3, .i (s : Int)) :: base) (fun _ => []) (fun n s => n + s = 24 ∧ ∀ q : Nat, q < s → ∀ m, m < (t.getD 0 []).length → cnt t m (q : Int) = cnt t 0 (q : Int)) (24) 0 [] rfl rfl (⟨by omega, by intro q hq; omega⟩) (by decide) trivial (by repeat' first | exact True.intro | exact rfl | exact ⟨rfl, rfl⟩ | refine And.intro ?_ ?_) fun n0 s hI0 => ?_
  obtain ⟨hn0, hv0⟩ := hI0
  refine AWPD.seq fun K4 hK4 => ?_
  refine AWPD.seq fun K5 hK5 => ?_
  -- region 2
  refine AWPD.keep [0, 3] rfl ?_
  refine AWPD.region tabOK rfl ?_
  refine hK5 _ _ ?_
  clear hK5
  first | refine AWPD.condP rfl (fun h0 => ?_) (fun h0 => ?_) | refine AWPD.condN rfl (fun h0 => ?_) (fun h0 => ?_) | refine AWPD.condAP rfl (fun h0 => ?_) (fun h0 => ?_) | refine AWPD.condOP rfl (fun h0 => ?_) (fun h0 => ?_) | refine AWPD.condONN rfl (fun h0 => ?_) (fun h0 => ?_) | refine AWPD.condOPN rfl (fun h0 => ?_) (fun h0 => ?_) | refine AWPD.condA rfl (fun h0 => ?_) (fun h0 => ?_) | refine AWPD.condO rfl (fun h0 => ?_) (fun h0 => ?_) | refine AWPD.cond rfl (fun h0 => ?_) (fun h0 => ?_)
  · try dsimp only [Ty.T] at h0
    try simp only [castL_self] at h0
    try simp only [Int.toNat_natCast] at h0
    try simp only [Int.toNat_zero] at h0
    have hke := keysE_ok (t := t) (s := (s : Int)) hc (by omega)
    have hl := keysL_len (t := t) (s := (s : Int)) hc (by omega)
    refine AWPD.skip ?_
    refine hK4 _ _ ?_
    clear hK4
    refine AWPD.seq fun K6 hK6 => ?_
    refine AWPD.block ?_
    refine AWPD.seq fun K7 hK7 => ?_
    -- region 4
    refine AWPD.keep [0, 3] rfl ?_
    refine AWPD.region tabOK rfl ?_
    refine Exists.intro _ (Exists.intro _ (And.intro (StepD.call (rkeys_fn _ _ (by assumption)) rfl rfl rfl) (And.intro rfl (And.intro trivial ?_))))
    refine hK7 _ _ ?_
    clear hK7
    refine AWPD.seq fun K8 hK8 => ?_
    -- region 5
    refine AWPD.keep [0, 3, 4] rfl ?_
    refine AWPD.region tabOK rfl ?_
    refine hK8 _ _ ?_
    clear hK8
    refine AWPD.block ?_
    -- LOOP 1 live [0, 3, 4, 5] changed [5]
    refine AWPD.loopK (σ := Nat) [0, 3, 4] (fun m base => (5, .i (m : Int)) :: base) (fun _ => []) (fun n m => 1 ≤ m ∧ n + m = (keysL t (s : Int)).length + 1 ∧ ∀ q : Nat, q < m → q < (t.getD 0 []).length → cnt t q (s : Int) = cnt t 0 (s : Int)) ((keysL t (s : Int)).length) 1 [] rfl rfl (⟨by omega, by omega, fun q h1 _ => by rw [show q = 0 by omega]⟩) (by decide) trivial (by repeat' first | exact True.intro | exact rfl | exact ⟨rfl, rfl⟩ | refine And.intro ?_ ?_) fun n1 m hI1 => ?_
    obtain ⟨hm1, hn1, hv1⟩ := hI1
    refine AWPD.seq fun K9 hK9 => ?_
    refine AWPD.seq fun K10 hK10 => ?_
    -- region 6
    refine AWPD.keep [0, 3, 4, 5] rfl ?_
    refine AWPD.region tabOK rfl ?_
    refine hK10 _ _ ?_
    clear hK10
    first | refine AWPD.condP rfl (fun h1 => ?_) (fun h1 => ?_) | refine AWPD.condN rfl (fun h1 => ?_) (fun h1 => ?_) | refine AWPD.condAP rfl (fun h1 => ?_) (fun h1 => ?_) | refine AWPD.condOP rfl (fun h1 => ?_) (fun h1 => ?_) | refine AWPD.condONN rfl (fun h1 => ?_) (fun h1 => ?_) | refine AWPD.condOPN rfl (fun h1 => ?_) (fun h1 => ?_) | refine AWPD.condA rfl (fun h1 => ?_) (fun h1 => ?_) | refine AWPD.condO rfl (fun h1 => ?_) (fun h1 => ?_) | refine AWPD.cond rfl (fun h1 => ?_) (fun h1 => ?_)
    · try dsimp only [Ty.T] at h1
      try simp only [castL_self] at h1
      try simp only [Int.toNat_natCast] at h1
      try simp only [Int.toNat_zero] at h1
      have hm := keysL_get (t := t) (s := (s : Int)) (m := m) hc (by omega) (by omega)
      have hz := keysL_get (t := t) (s := (s : Int)) (m := m - 1) hc (by omega) (by omega)
      have hix : ((m : Int) - 1).toNat = m - 1 := by omega
      refine AWPD.skip ?_
      refine hK9 _ _ ?_
      clear hK9
      refine AWPD.seq fun K11 hK11 => ?_
      refine AWPD.block ?_
      refine AWPD.seq fun K12 hK12 => ?_
      -- region 8
      refine AWPD.keep [0, 3, 4, 5] rfl ?_
      refine AWPD.draw tabOK [] rfl (by kernel_rfl) ?_
      repeat refine And.intro (by first | exact fun h => h | exact fun _ => rfl | (intro h; rw [h]; rfl) | omega | ((try dsimp only [Ty.T]); (try simp only [castL_self]); (try simp only [Int.toNat_natCast]); (try simp only [Int.toNat_zero]); (try simp only [true_and]); omega) | (intros; (try dsimp only [Ty.T]); (try simp only [castL_self]); (try simp only [Int.toNat_natCast]); (try simp only [Int.toNat_zero]); (try simp only [true_and]); omega) | ((try dsimp only [Ty.T, Ty.size]); (try simp only [castL_self, Int.toNat_natCast, Int.toNat_zero, true_and, List.length_append, List.length_set, List.length_cons, List.length_nil, Nat.zero_add, Nat.mul_one]); omega) | ((try dsimp only [Ty.T, Ty.size]); (try simp only [castL_self, Int.toNat_natCast, Int.toNat_zero, Int.toNat_one, true_and, List.length_append, List.length_set, List.length_drop, List.length_take, List.length_replicate, List.length_cons, List.length_nil, Nat.zero_add, Nat.mul_one]); omega) | decide | (intros; simp_all; done) | (intros; simp_all; omega)) ?_
      refine hK12 _ _ ?_
      clear hK12
      first | refine AWPD.condP rfl (fun h2 => ?_) (fun h2 => ?_) | refine AWPD.condN rfl (fun h2 => ?_) (fun h2 => ?_) | refine AWPD.condAP rfl (fun h2 => ?_) (fun h2 => ?_) | refine AWPD.condOP rfl (fun h2 => ?_) (fun h2 => ?_) | refine AWPD.condONN rfl (fun h2 => ?_) (fun h2 => ?_) | refine AWPD.condOPN rfl (fun h2 => ?_) (fun h2 => ?_) | refine AWPD.condA rfl (fun h2 => ?_) (fun h2 => ?_) | refine AWPD.condO rfl (fun h2 => ?_) (fun h2 => ?_) | refine AWPD.cond rfl (fun h2 => ?_) (fun h2 => ?_)
      · try dsimp only [Ty.T] at h2
        try simp only [castL_self] at h2
        try simp only [Int.toNat_natCast] at h2
        try simp only [Int.toNat_zero] at h2
        refine AWPD.seq fun K13 hK13 => ?_
        -- region 9
        refine AWPD.keep [] rfl ?_
        refine AWPD.region tabOK rfl ?_
        refine hK13 _ _ ?_
        clear hK13
        refine AWPD.ret (And.intro (.inl rfl) ?_)
        -- result 0
        refine RetD.one ?_
        refine fitB rfl (decide_eq_false fun hp => ?_).symm
        rw [hix, hm, hz] at h2
        have a := hp.2 s (by omega) m (by omega)
        have b := hp.2 s (by omega) (m - 1) (by omega)
        exact h2 (by rw [a, b])
      · try dsimp only [Ty.T] at h2
        try simp only [castL_self] at h2
        try simp only [Int.toNat_natCast] at h2
        try simp only [Int.toNat_zero] at h2
        refine AWPD.skip ?_
        refine hK11 _ _ ?_
        clear hK11
        -- region 7
        refine AWPD.keep [0, 3, 4, 5] rfl ?_
        refine AWPD.region tabOK rfl ?_
        repeat refine And.intro (by first | exact fun h => h | exact fun _ => rfl | (intro h; rw [h]; rfl) | omega | ((try dsimp only [Ty.T]); (try simp only [castL_self]); (try simp only [Int.toNat_natCast]); (try simp only [Int.toNat_zero]); (try simp only [true_and]); omega) | (intros; (try dsimp only [Ty.T]); (try simp only [castL_self]); (try simp only [Int.toNat_natCast]); (try simp only [Int.toNat_zero]); (try simp only [true_and]); omega) | ((try dsimp only [Ty.T, Ty.size]); (try simp only [castL_self, Int.toNat_natCast, Int.toNat_zero, true_and, List.length_append, List.length_set, List.length_cons, List.length_nil, Nat.zero_add, Nat.mul_one]); omega) | ((try dsimp only [Ty.T, Ty.size]); (try simp only [castL_self, Int.toNat_natCast, Int.toNat_zero, Int.toNat_one, true_and, List.length_append, List.length_set, List.length_drop, List.length_take, List.length_replicate, List.length_cons, List.length_nil, Nat.zero_add, Nat.mul_one]); omega) | decide | (intros; simp_all; done) | (intros; simp_all; omega)) ?_
        refine ⟨n1 - 1, m + 1, [], by omega, ⟨by omega, by omega, fun q hq hq2 => by
                rcases Nat.lt_or_ge q m with h | h
                · exact hv1 q h hq2
                · have e : q = m := by omega
                  subst e
                  rw [hix, hm, hz] at h2
                  rw [← hv1 (q - 1) (by omega) (by omega)]
                  exact Decidable.not_not.1 h2⟩, ⟨by decide, rfl⟩, trivial, ?_⟩
        repeat' first | exact True.intro | exact rfl | exact ⟨rfl, rfl⟩ | refine And.intro ?_ ?_
    · try dsimp only [Ty.T] at h1
      try simp only [castL_self] at h1
      try simp only [Int.toNat_natCast] at h1
      try simp only [Int.toNat_zero] at h1
      refine AWPD.exit ?_
      refine hK6 _ _ ?_
      clear hK6
      -- region 3
      refine AWPD.keep [0, 3] rfl ?_
      refine AWPD.region tabOK rfl ?_
      repeat refine And.intro (by first | exact fun h => h | exact fun _ => rfl | (intro h; rw [h]; rfl) | omega | ((try dsimp only [Ty.T]); (try simp only [castL_self]); (try simp only [Int.toNat_natCast]); (try simp only [Int.toNat_zero]); (try simp only [true_and]); omega) | (intros; (try dsimp only [Ty.T]); (try simp only [castL_self]); (try simp only [Int.toNat_natCast]); (try simp only [Int.toNat_zero]); (try simp only [true_and]); omega) | ((try dsimp only [Ty.T, Ty.size]); (try simp only [castL_self, Int.toNat_natCast, Int.toNat_zero, true_and, List.length_append, List.length_set, List.length_cons, List.length_nil, Nat.zero_add, Nat.mul_one]); omega) | ((try dsimp only [Ty.T, Ty.size]); (try simp only [castL_self, Int.toNat_natCast, Int.toNat_zero, Int.toNat_one, true_and, List.length_append, List.length_set, List.length_drop, List.length_take, List.length_replicate, List.length_cons, List.length_nil, Nat.zero_add, Nat.mul_one]); omega) | decide | (intros; simp_all; done) | (intros; simp_all; omega)) ?_
      refine ⟨n0 - 1, s + 1, [], by omega, ⟨by omega, fun q hq m2 hm2 => by
          rcases Nat.lt_or_ge q s with h | h
          · exact hv0 q h m2 hm2
          · have e : q = s := by omega
            subst e
            exact hv1 m2 (by omega) (by omega)⟩, ⟨by decide, rfl⟩, trivial, ?_⟩
      repeat' first | exact True.intro | exact rfl | exact ⟨rfl, rfl⟩ | refine And.intro ?_ ?_
  · try dsimp only [Ty.T] at h0
    try simp only [castL_self] at h0
    try simp only [Int.toNat_natCast] at h0
    try simp only [Int.toNat_zero] at h0
    refine AWPD.exit ?_
    refine hK2 _ _ ?_
    clear hK2
    refine AWPD.seq fun K14 hK14 => ?_
    -- region 10
    refine AWPD.keep [] rfl ?_
    refine AWPD.region tabOK rfl ?_
    refine hK14 _ _ ?_
    clear hK14
    refine AWPD.ret (And.intro (.inl rfl) ?_)
    -- result 1
    refine RetD.one ?_
    exact fitB rfl (decide_eq_true ⟨hc, fun q hq m2 hm2 => hv0 q (by omega) m2 hm2⟩).symm

def rfold (s : Int) (row : List Int) : Nat → Int × Int
  | 0 => (0, 5)
  | m + 1 => if row.getD m 0 = s then ((m : Int), 0) else rfold s row m
theorem rfold_yes {s : Int} {row : List Int} {m : Nat} (h : row.getD m 0 = s) : rfold s row (m + 1) = ((m : Int), 0) := by rw [rfold, if_pos h]
theorem rfold_no {s : Int} {row : List Int} {m : Nat} (h : ¬row.getD m 0 = s) : rfold s row (m + 1) = rfold s row m := by rw [rfold, if_neg h]
theorem firstI_some : ∀ {l : List Int} {s : Int} {m : Nat}, firstI s l = some m → m < l.length ∧ l.getD m 0 = s
  | [], s, m, h => by cases h
  | c :: r, s, m, h => by
    rw [firstI] at h
    split at h
    · rename_i hc; cases h; exact ⟨by simp, hc⟩
    · obtain ⟨q, hq, rfl⟩ := Option.map_eq_some_iff.1 h
      obtain ⟨h1, h2⟩ := firstI_some hq
      exact ⟨by simpa using h1, h2⟩
theorem firstI_none : ∀ {l : List Int} {s : Int}, firstI s l = none → ∀ q, q < l.length → l.getD q 0 ≠ s
  | [], s, h, q, hq => by simp at hq
  | c :: r, s, h, q, hq => by
    rw [firstI] at h
    split at h
    · cases h
    · rename_i hc
      have h' := Option.map_eq_none_iff.1 h
      cases q with
      | zero => exact hc
      | succ q => exact firstI_none h' q (by simpa using hq)
theorem rfold_none {s : Int} {row : List Int} : ∀ n, (∀ q, q < n → row.getD q 0 ≠ s) → rfold s row n = (0, 5)
  | 0, _ => rfl
  | n + 1, h => by rw [rfold_no (h n (by omega)), rfold_none n fun q hq => h q (by omega)]
theorem rfold_one {s : Int} {row : List Int} {m : Nat} (hm : row.getD m 0 = s) : ∀ n, m < n → (∀ q, q < n → row.getD q 0 = s → q = m) → rfold s row n = ((m : Int), 0)
  | n + 1, hn, h => by
    by_cases hs : row.getD n 0 = s
    · rw [rfold_yes hs, h n (by omega) hs]
    · have : m ≠ n := fun e => hs (e ▸ hm)
      rw [rfold_no hs, rfold_one hm n (by omega) fun q hq => h q (by omega)]
theorem rfold_first {s : Int} {row : List Int} (ap : ∀ j k, j < row.length → k < j → row.getD k 0 ≠ row.getD j 0) : rfold s row row.length = firstR s row := by
  unfold firstR
  cases h : firstI s row with
  | none => rw [rfold_none _ (firstI_none h)]
  | some m =>
    obtain ⟨h1, h2⟩ := firstI_some h
    rw [rfold_one h2 _ h1 fun q hq hs => by
      rcases Nat.lt_trichotomy q m with h3 | h3 | h3
      · exact absurd (hs.trans h2.symm) (ap m q h1 h3)
      · exact h3
      · exact absurd (h2.trans hs.symm) (ap q m hq h3)]
theorem keysL_no {t : List (List Int)} {s : Int} (h : keysE t s ≠ 0) : keysL t s = [] := by rw [keysL, if_neg h]
def getF (t : List (List Int)) (key s : Int) : Int := if chk t ≠ 0 then chk t else if (0 ≤ key ∧ key ≤ (t.length : Int) - 1) ∧ (0 ≤ s ∧ s ≤ 23) then 0 else 1

theorem cipherSays_fn (t : List (List Int)) (key m s : Int) : LiftsG Tryd.prog errG 3 [.sl (.sl .int) t, .i key, .i m, .i s] (.b true) := by
  have hc00 : chk t = 0 → 0 < t.length := fun h => (chk_good h).some
  have hc01 : chk t = 0 → t.length ≤ 24 := fun h => (chk_good h).many
  have hpf : perfB t = (bif decide (chk t = 0) then perfB t else false) := by
    by_cases h : chk t = 0
    · simp [h]
    · simp [h, perfB]
  refine LiftsG.of_body 187 [.tmp 8] Tryd.func3 rfl Tryd.ntmps3 (by kernel_rfl) rfl rfl fun w0 X0 hG0 => ?_
  refine AWPD.seq fun K1 hK1 => ?_
  -- region 0
  refine AWPD.keep [0, 1, 2, 3] rfl ?_
  refine AWPD.region tabOK rfl ?_
  refine hK1 _ _ ?_
  clear hK1
  refine AWPD.seq fun K2 hK2 => ?_
  -- region 1
  refine AWPD.keep [0, 1, 2, 3] rfl ?_
  refine AWPD.region tabOK rfl ?_
  refine Exists.intro _ (Exists.intro _ (And.intro (StepD.call (rcipher_fn _) rfl rfl rfl) (And.intro rfl (And.intro trivial ?_))))
  refine hK2 _ _ ?_
  clear hK2
  refine AWPD.seq fun K3 hK3 => ?_
  -- region 2
  refine AWPD.keep [0, 1, 2, 3, 9] rfl ?_
  refine AWPD.region tabOK rfl ?_
  refine Exists.intro _ (Exists.intro _ (And.intro (StepD.call (check_fn _) rfl rfl rfl) (And.intro rfl (And.intro trivial ?_))))
  refine Exists.intro _ (Exists.intro _ (And.intro (StepD.callG errG_stays rfl hG0 (error_fn _ _) rfl rfl rfl) (And.intro rfl (And.intro trivial ?_))))
  refine hK3 _ _ ?_
  clear hK3
  refine AWPD.seq fun K4 hK4 => ?_
  -- region 3
  refine AWPD.keep [0, 1, 2, 3, 9, 10] rfl ?_
  refine AWPD.region tabOK rfl ?_
  repeat refine And.intro (by first | (intro hc; have hh := hc00 (by simpa using hc); omega) | exact fun h => h | exact fun _ => rfl | (intro h; rw [h]; rfl) | omega | ((try dsimp only [Ty.T]); (try simp only [castL_self]); (try simp only [Int.toNat_natCast]); (try simp only [Int.toNat_zero]); (try simp only [true_and]); omega) | (intros; (try dsimp only [Ty.T]); (try simp only [castL_self]); (try simp only [Int.toNat_natCast]); (try simp only [Int.toNat_zero]); (try simp only [true_and]); omega) | ((try dsimp only [Ty.T, Ty.size]); (try simp only [castL_self, Int.toNat_natCast, Int.toNat_zero, true_and, List.length_append, List.length_set, List.length_cons, List.length_nil, Nat.zero_add, Nat.mul_one]); omega) | ((try dsimp only [Ty.T, Ty.size]); (try simp only [castL_self, Int.toNat_natCast, Int.toNat_zero, Int.toNat_one, true_and, List.length_append, List.length_set, List.length_drop, List.length_take, List.length_replicate, List.length_cons, List.length_nil, Nat.zero_add, Nat.mul_one]); omega) | decide | (intros; simp_all; done) | (intros; simp_all; omega)) ?_
  refine Exists.intro _ (And.intro (fun hg => StepD.call (rperf_fn _ (by simpa using hg)) rfl rfl rfl) (And.intro rfl ?_))
  repeat refine And.intro (by first | (intro hc; have hh := hc00 (by simpa using hc); omega) | exact fun h => h | exact fun _ => rfl | (intro h; rw [h]; rfl) | omega | ((try dsimp only [Ty.T]); (try simp only [castL_self]); (try simp only [Int.toNat_natCast]); (try simp only [Int.toNat_zero]); (try simp only [true_and]); omega) | (intros; (try dsimp only [Ty.T]); (try simp only [castL_self]); (try simp only [Int.toNat_natCast]); (try simp only [Int.toNat_zero]); (try simp only [true_and]); omega) | ((try dsimp only [Ty.T, Ty.size]); (try simp only [castL_self, Int.toNat_natCast, Int.toNat_zero, true_and, List.length_append, List.length_set, List.length_cons, List.length_nil, Nat.zero_add, Nat.mul_one]); omega) | ((try dsimp only [Ty.T, Ty.size]); (try simp only [castL_self, Int.toNat_natCast, Int.toNat_zero, Int.toNat_one, true_and, List.length_append, List.length_set, List.length_drop, List.length_take, List.length_replicate, List.length_cons, List.length_nil, Nat.zero_add, Nat.mul_one]); omega) | decide | (intros; simp_all; done) | (intros; simp_all; omega)) ?_
  refine hK4 _ _ ?_
  clear hK4
  refine AWPD.seq fun K5 hK5 => ?_
  -- region 4
  refine AWPD.keep [0, 1, 2, 3, 9, 10, 11] rfl ?_
  refine AWPD.region tabOK rfl ?_
  refine Exists.intro _ (Exists.intro _ (And.intro (StepD.call (perfect_fn _) rfl rfl rfl) (And.intro rfl (And.intro trivial ?_))))
  refine hK5 _ _ ?_
  clear hK5
  refine AWPD.seq fun K6 hK6 => ?_
  -- region 5
  refine AWPD.keep [0, 1, 2, 3, 9, 10, 11, 12, 13] rfl ?_
  refine AWPD.region tabOK rfl ?_
  refine Exists.intro _ (Exists.intro _ (And.intro (StepD.callG errG_stays rfl hG0 (error_fn _ _) rfl rfl rfl) (And.intro rfl (And.intro trivial ?_))))
  repeat refine And.intro (by first | (intro hc; have hh := hc00 (by simpa using hc); omega) | exact fun h => h | exact fun _ => rfl | (intro h; rw [h]; rfl) | omega | ((try dsimp only [Ty.T]); (try simp only [castL_self]); (try simp only [Int.toNat_natCast]); (try simp only [Int.toNat_zero]); (try simp only [true_and]); omega) | (intros; (try dsimp only [Ty.T]); (try simp only [castL_self]); (try simp only [Int.toNat_natCast]); (try simp only [Int.toNat_zero]); (try simp only [true_and]); omega) | ((try dsimp only [Ty.T, Ty.size]); (try simp only [castL_self, Int.toNat_natCast, Int.toNat_zero, true_and, List.length_append, List.length_set, List.length_cons, List.length_nil, Nat.zero_add, Nat.mul_one]); omega) | ((try dsimp only [Ty.T, Ty.size]); (try simp only [castL_self, Int.toNat_natCast, Int.toNat_zero, Int.toNat_one, true_and, List.length_append, List.length_set, List.length_drop, List.length_take, List.length_replicate, List.length_cons, List.length_nil, Nat.zero_add, Nat.mul_one]); omega) | decide | (intros; simp_all; done) | (intros; simp_all; omega)) ?_
  refine hK6 _ _ ?_
  clear hK6
  refine AWPD.seq fun K7 hK7 => ?_
  -- region 6
  refine AWPD.keep [0, 1, 2, 3, 9, 10, 14] rfl ?_
  refine AWPD.region tabOK rfl ?_
  refine hK7 _ _ ?_
  clear hK7
  refine AWPD.seq fun K8 hK8 => ?_
  have tail8 : ∀ (fr : DF) (b10 b14 : Bool) (e1 : Int), keepF fr [0, 1, 2, 3, 9, 10, 14, 15] [] = some [(15, .i e1), (14, .b b14), (10, .b b10), (9, .i (chk t)), (3, .i s), (2, .i m), (1, .i key), (0, .sl (.sl .int) t)] → (b10 = true ∧ b14 = true ∧ e1 = (sendR t key m).2) → K8 fr [] := by
    intro fr b10 b14 e1 hkf hs
    refine hK8 fr [] (AWPD.keep [0, 1, 2, 3, 9, 10, 14, 15] hkf ?_)
    clear hkf hK8
    obtain ⟨rfl, rfl, rfl⟩ := hs
    refine AWPD.seq fun K9 hK9 => ?_
    -- region 9
    refine AWPD.keep [0, 1, 2, 3, 9, 10, 14, 15] rfl ?_
    refine AWPD.region tabOK rfl ?_
    refine hK9 _ _ ?_
    clear hK9
    refine AWPD.seq fun K10 hK10 => ?_
    have tail10 : ∀ (fr : DF) (v : Int), keepF fr [0, 1, 2, 3, 9, 10, 14, 15, 16] [] = some [(16, .i v), (15, .i (sendR t key m).2), (14, .b true), (10, .b true), (9, .i (chk t)), (3, .i s), (2, .i m), (1, .i key), (0, .sl (.sl .int) t)] → (v = (sendR t key m).1) → K10 fr [] := by
      intro fr v hkf hs
      refine hK10 fr [] (AWPD.keep [0, 1, 2, 3, 9, 10, 14, 15, 16] hkf ?_)
      clear hkf hK10
      subst hs
      refine AWPD.seq fun K11 hK11 => ?_
      -- region 12
      refine AWPD.keep [0, 1, 2, 3, 9, 10, 14, 15, 16] rfl ?_
      refine AWPD.region tabOK rfl ?_
      refine Exists.intro _ (Exists.intro _ (And.intro (StepD.call (send_fn _ _ _) rfl rfl rfl) (And.intro rfl (And.intro trivial ?_))))
      refine hK11 _ _ ?_
      clear hK11
      refine AWPD.seq fun K12 hK12 => ?_
      -- region 13
      refine AWPD.keep [0, 1, 3, 9, 10, 13, 14, 15, 16, 17] rfl ?_
      refine AWPD.region tabOK rfl ?_
      refine Exists.intro _ (Exists.intro _ (And.intro (StepD.callG errG_stays rfl hG0 (error_fn _ _) rfl rfl rfl) (And.intro rfl (And.intro trivial ?_))))
      repeat refine And.intro (by first | (intro hc; have hh := hc00 (by simpa using hc); omega) | exact fun h => h | exact fun _ => rfl | (intro h; rw [h]; rfl) | omega | ((try dsimp only [Ty.T]); (try simp only [castL_self]); (try simp only [Int.toNat_natCast]); (try simp only [Int.toNat_zero]); (try simp only [true_and]); omega) | (intros; (try dsimp only [Ty.T]); (try simp only [castL_self]); (try simp only [Int.toNat_natCast]); (try simp only [Int.toNat_zero]); (try simp only [true_and]); omega) | ((try dsimp only [Ty.T, Ty.size]); (try simp only [castL_self, Int.toNat_natCast, Int.toNat_zero, true_and, List.length_append, List.length_set, List.length_cons, List.length_nil, Nat.zero_add, Nat.mul_one]); omega) | ((try dsimp only [Ty.T, Ty.size]); (try simp only [castL_self, Int.toNat_natCast, Int.toNat_zero, Int.toNat_one, true_and, List.length_append, List.length_set, List.length_drop, List.length_take, List.length_replicate, List.length_cons, List.length_nil, Nat.zero_add, Nat.mul_one]); omega) | decide | (intros; simp_all; done) | (intros; simp_all; omega)) ?_
      refine hK12 _ _ ?_
      clear hK12
      refine AWPD.seq fun K13 hK13 => ?_
      -- region 14
      refine AWPD.keep [0, 1, 3, 9, 10, 14, 18] rfl ?_
      refine AWPD.region tabOK rfl ?_
      refine hK13 _ _ ?_
      clear hK13
      refine AWPD.seq fun K14 hK14 => ?_
      have tail14 : ∀ (fr : DF) (b18 : Bool) (e2 : Int), keepF fr [0, 1, 3, 9, 10, 14, 15, 18] [] = some [(18, .b b18), (15, .i e2), (14, .b true), (10, .b true), (9, .i (chk t)), (3, .i s), (1, .i key), (0, .sl (.sl .int) t)] → (b18 = true ∧ e2 = keysE t s) → K14 fr [] := by
        intro fr b18 e2 hkf hs
        refine hK14 fr [] (AWPD.keep [0, 1, 3, 9, 10, 14, 15, 18] hkf ?_)
        clear hkf hK14
        obtain ⟨rfl, rfl⟩ := hs
        refine AWPD.seq fun K15 hK15 => ?_
        -- region 17
        refine AWPD.keep [0, 1, 3, 9, 10, 14, 15, 18] rfl ?_
        refine AWPD.region tabOK rfl ?_
        refine hK15 _ _ ?_
        clear hK15
        refine AWPD.seq fun K16 hK16 => ?_
        refine AWPD.seq fun K17 hK17 => ?_
        -- region 18
        refine AWPD.keep [0, 1, 3, 9, 10, 14, 15, 18, 19] rfl ?_
        refine AWPD.region tabOK rfl ?_
        refine hK17 _ _ ?_
        clear hK17
        first | refine AWPD.condP rfl (fun h3 => ?_) (fun h3 => ?_) | refine AWPD.condN rfl (fun h3 => ?_) (fun h3 => ?_) | refine AWPD.condAP rfl (fun h3 => ?_) (fun h3 => ?_) | refine AWPD.condOP rfl (fun h3 => ?_) (fun h3 => ?_) | refine AWPD.condONN rfl (fun h3 => ?_) (fun h3 => ?_) | refine AWPD.condOPN rfl (fun h3 => ?_) (fun h3 => ?_) | refine AWPD.condA rfl (fun h3 => ?_) (fun h3 => ?_) | refine AWPD.condO rfl (fun h3 => ?_) (fun h3 => ?_) | refine AWPD.cond rfl (fun h3 => ?_) (fun h3 => ?_)
        · try dsimp only [Ty.T] at h3
          try simp only [castL_self] at h3
          try simp only [Int.toNat_natCast] at h3
          try simp only [Int.toNat_zero] at h3
          -- region 19
          refine AWPD.keep [0, 1, 3, 9, 10, 14, 15, 18] rfl ?_
          refine AWPD.region tabOK rfl ?_
          refine Exists.intro _ (Exists.intro _ (And.intro (StepD.call (rkeys_fn _ _ (by assumption)) rfl rfl rfl) (And.intro rfl (And.intro trivial ?_))))
          refine hK16 _ _ ?_
          clear hK16
          refine AWPD.seq fun K18 hK18 => ?_
          -- region 20
          have hkl : (keysL t s).length ≤ 6 := by
            by_cases hk : keysE t s = 0
            · have hch : chk t = 0 := by
                by_cases h : chk t = 0
                · exact h
                · unfold keysE at hk; rw [if_pos h] at hk; exact absurd hk h
              have hs2 : 0 ≤ s ∧ s ≤ 23 := by
                unfold keysE at hk
                rw [if_neg (fun x => x hch)] at hk
                split at hk
                · assumption
                · cases hk
              rw [keysL_len hch hs2]; exact (chk_good hch).wide
            · rw [keysL_no hk]; simp
          refine AWPD.keep [0, 1, 3, 9, 10, 14, 15, 18, 19] rfl ?_
          refine AWPD.region tabOK rfl ?_
          refine Exists.intro _ (Exists.intro _ (And.intro (StepD.call (keys_fn _ _) rfl rfl rfl) (And.intro rfl (And.intro trivial ?_))))
          refine hK18 _ _ ?_
          clear hK18
          refine AWPD.seq fun K19 hK19 => ?_
          -- region 21
          refine AWPD.keep [0, 1, 3, 9, 10, 13, 14, 15, 18, 19, 20] rfl ?_
          refine AWPD.region tabOK rfl ?_
          refine Exists.intro _ (Exists.intro _ (And.intro (StepD.callG errG_stays rfl hG0 (error_fn _ _) rfl rfl rfl) (And.intro rfl (And.intro trivial ?_))))
          repeat refine And.intro (by first | (intro hc; have hh := hc00 (by simpa using hc); omega) | exact fun h => h | exact fun _ => rfl | (intro h; rw [h]; rfl) | omega | ((try dsimp only [Ty.T]); (try simp only [castL_self]); (try simp only [Int.toNat_natCast]); (try simp only [Int.toNat_zero]); (try simp only [true_and]); omega) | (intros; (try dsimp only [Ty.T]); (try simp only [castL_self]); (try simp only [Int.toNat_natCast]); (try simp only [Int.toNat_zero]); (try simp only [true_and]); omega) | ((try dsimp only [Ty.T, Ty.size]); (try simp only [castL_self, Int.toNat_natCast, Int.toNat_zero, true_and, List.length_append, List.length_set, List.length_cons, List.length_nil, Nat.zero_add, Nat.mul_one]); omega) | ((try dsimp only [Ty.T, Ty.size]); (try simp only [castL_self, Int.toNat_natCast, Int.toNat_zero, Int.toNat_one, true_and, List.length_append, List.length_set, List.length_drop, List.length_take, List.length_replicate, List.length_cons, List.length_nil, Nat.zero_add, Nat.mul_one]); omega) | decide | (intros; simp_all; done) | (intros; simp_all; omega)) ?_
          refine Exists.intro _ (And.intro (fun hg => StepD.call (by first | exact ints_fn _ _ (by omega) | exact LiftsD.fit (ints_fn (keysL t s) [] (by omega)) ⟨⟨rfl, rfl⟩, ⟨rfl, by decide⟩, trivial⟩) rfl rfl rfl) (And.intro rfl ?_))
          repeat refine And.intro (by first | (intro hc; have hh := hc00 (by simpa using hc); omega) | exact fun h => h | exact fun _ => rfl | (intro h; rw [h]; rfl) | omega | ((try dsimp only [Ty.T]); (try simp only [castL_self]); (try simp only [Int.toNat_natCast]); (try simp only [Int.toNat_zero]); (try simp only [true_and]); omega) | (intros; (try dsimp only [Ty.T]); (try simp only [castL_self]); (try simp only [Int.toNat_natCast]); (try simp only [Int.toNat_zero]); (try simp only [true_and]); omega) | ((try dsimp only [Ty.T, Ty.size]); (try simp only [castL_self, Int.toNat_natCast, Int.toNat_zero, true_and, List.length_append, List.length_set, List.length_cons, List.length_nil, Nat.zero_add, Nat.mul_one]); omega) | ((try dsimp only [Ty.T, Ty.size]); (try simp only [castL_self, Int.toNat_natCast, Int.toNat_zero, Int.toNat_one, true_and, List.length_append, List.length_set, List.length_drop, List.length_take, List.length_replicate, List.length_cons, List.length_nil, Nat.zero_add, Nat.mul_one]); omega) | decide | (intros; simp_all; done) | (intros; simp_all; omega)) ?_
          refine hK19 _ _ ?_
          clear hK19
          refine AWPD.seq fun K20 hK20 => ?_
          have tail20 : ∀ (fr : DF) (b21 : Bool) (e4 : Int), keepF fr [0, 1, 3, 10, 14, 15, 18, 21] [] = some [(21, .b b21), (18, .b true), (15, .i e4), (14, .b true), (10, .b true), (3, .i s), (1, .i key), (0, .sl (.sl .int) t)] → (b21 = true ∧ e4 = getF t key s) → K20 fr [] := by
            intro fr b21 e4 hkf hs
            refine hK20 fr [] (AWPD.keep [0, 1, 3, 10, 14, 15, 18, 21] hkf ?_)
            clear hkf hK20
            obtain ⟨rfl, rfl⟩ := hs
            refine AWPD.seq fun K21 hK21 => ?_
            -- region 24
            refine AWPD.keep [0, 1, 3, 10, 14, 15, 18, 21] rfl ?_
            refine AWPD.region tabOK rfl ?_
            refine hK21 _ _ ?_
            clear hK21
            refine AWPD.seq fun K22 hK22 => ?_
            refine AWPD.seq fun K23 hK23 => ?_
            -- region 25
            refine AWPD.keep [0, 1, 3, 10, 14, 15, 16, 18, 21] rfl ?_
            refine AWPD.region tabOK rfl ?_
            refine hK23 _ _ ?_
            clear hK23
            first | refine AWPD.condP rfl (fun h5 => ?_) (fun h5 => ?_) | refine AWPD.condN rfl (fun h5 => ?_) (fun h5 => ?_) | refine AWPD.condAP rfl (fun h5 => ?_) (fun h5 => ?_) | refine AWPD.condOP rfl (fun h5 => ?_) (fun h5 => ?_) | refine AWPD.condONN rfl (fun h5 => ?_) (fun h5 => ?_) | refine AWPD.condOPN rfl (fun h5 => ?_) (fun h5 => ?_) | refine AWPD.condA rfl (fun h5 => ?_) (fun h5 => ?_) | refine AWPD.condO rfl (fun h5 => ?_) (fun h5 => ?_) | refine AWPD.cond rfl (fun h5 => ?_) (fun h5 => ?_)
            · try dsimp only [Ty.T] at h5
              try simp only [castL_self] at h5
              try simp only [Int.toNat_natCast] at h5
              try simp only [Int.toNat_zero] at h5
              have hch : chk t = 0 := by
                unfold getF at h5
                split at h5
                · rename_i h; exact absurd h5 h
                · omega
              have g := chk_good hch
              have hks : (0 ≤ key ∧ key ≤ (t.length : Int) - 1) ∧ (0 ≤ s ∧ s ≤ 23) := by
                unfold getF at h5
                rw [if_neg (fun x => x hch)] at h5
                split at h5
                · assumption
                · cases h5
              have hrow := good_row g (i := key.toNat) (by omega)
              have hshape := g.shape key.toNat (by omega)
              have hwide := g.wide
              have hgR : getR t key s = firstR s (t.getD key.toNat []) := by unfold getR; rw [if_neg (fun x => x hch), if_pos hks]
              refine AWPD.seq fun K24 hK24 => ?_
              -- region 26
              refine AWPD.keep [0, 1, 3, 10, 14, 16, 18, 21] rfl ?_
              refine AWPD.region tabOK rfl ?_
              refine hK24 _ _ ?_
              clear hK24
              refine AWPD.seq fun K25 hK25 => ?_
              -- region 27
              refine AWPD.keep [0, 1, 3, 10, 14, 15, 16, 18, 21] rfl ?_
              refine AWPD.region tabOK rfl ?_
              refine hK25 _ _ ?_
              clear hK25
              refine AWPD.block ?_
              -- LOOP 0 live [0, 1, 3, 10, 14, 15, 16, 18, 21, 22] changed [15, 16, 22]
              refine AWPD.loopK (σ := Nat) [0, 1, 3, 10, 14, 18, 21] (fun q base => (16, .i (rfold s (t.getD key.toNat []) q).1) :: (15, .i (rfold s (t.getD key.toNat []) q).2) :: (22, .i (q : Int)) :: base) (fun _ => []) (fun n q => n + q = (t.getD key.toNat []).length) ((t.getD key.toNat []).length) 0 [] rfl rfl (by omega) (by decide) trivial (by repeat' first | exact True.intro | exact rfl | exact ⟨rfl, rfl⟩ | refine And.intro ?_ ?_) fun n0 q hI0 => ?_
              have hn0 := hI0
              refine AWPD.seq fun K26 hK26 => ?_
              refine AWPD.seq fun K27 hK27 => ?_
              -- region 28
              refine AWPD.keep [0, 1, 3, 10, 14, 15, 16, 18, 21, 22] rfl ?_
              refine AWPD.region tabOK rfl ?_
              repeat refine And.intro (by first | (intro hc; have hh := hc00 (by simpa using hc); omega) | exact fun h => h | exact fun _ => rfl | (intro h; rw [h]; rfl) | omega | ((try dsimp only [Ty.T]); (try simp only [castL_self]); (try simp only [Int.toNat_natCast]); (try simp only [Int.toNat_zero]); (try simp only [true_and]); omega) | (intros; (try dsimp only [Ty.T]); (try simp only [castL_self]); (try simp only [Int.toNat_natCast]); (try simp only [Int.toNat_zero]); (try simp only [true_and]); omega) | ((try dsimp only [Ty.T, Ty.size]); (try simp only [castL_self, Int.toNat_natCast, Int.toNat_zero, true_and, List.length_append, List.length_set, List.length_cons, List.length_nil, Nat.zero_add, Nat.mul_one]); omega) | ((try dsimp only [Ty.T, Ty.size]); (try simp only [castL_self, Int.toNat_natCast, Int.toNat_zero, Int.toNat_one, true_and, List.length_append, List.length_set, List.length_drop, List.length_take, List.length_replicate, List.length_cons, List.length_nil, Nat.zero_add, Nat.mul_one]); omega) | decide | (intros; simp_all; done) | (intros; simp_all; omega)) ?_
              refine hK27 _ _ ?_
              clear hK27
              first | refine AWPD.condP rfl (fun h6 => ?_) (fun h6 => ?_) | refine AWPD.condN rfl (fun h6 => ?_) (fun h6 => ?_) | refine AWPD.condAP rfl (fun h6 => ?_) (fun h6 => ?_) | refine AWPD.condOP rfl (fun h6 => ?_) (fun h6 => ?_) | refine AWPD.condONN rfl (fun h6 => ?_) (fun h6 => ?_) | refine AWPD.condOPN rfl (fun h6 => ?_) (fun h6 => ?_) | refine AWPD.condA rfl (fun h6 => ?_) (fun h6 => ?_) | refine AWPD.condO rfl (fun h6 => ?_) (fun h6 => ?_) | refine AWPD.cond rfl (fun h6 => ?_) (fun h6 => ?_)
              · try dsimp only [Ty.T] at h6
                try simp only [castL_self] at h6
                try simp only [Int.toNat_natCast] at h6
                try simp only [Int.toNat_zero] at h6
                refine AWPD.skip ?_
                refine hK26 _ _ ?_
                clear hK26
                refine AWPD.seq fun K28 hK28 => ?_
                refine AWPD.block ?_
                refine AWPD.seq fun K29 hK29 => ?_
                -- region 30
                refine AWPD.keep [0, 1, 3, 10, 14, 15, 16, 18, 21, 22] rfl ?_
                refine AWPD.region tabOK rfl ?_
                repeat refine And.intro (by first | (intro hc; have hh := hc00 (by simpa using hc); omega) | exact fun h => h | exact fun _ => rfl | (intro h; rw [h]; rfl) | omega | ((try dsimp only [Ty.T]); (try simp only [castL_self]); (try simp only [Int.toNat_natCast]); (try simp only [Int.toNat_zero]); (try simp only [true_and]); omega) | (intros; (try dsimp only [Ty.T]); (try simp only [castL_self]); (try simp only [Int.toNat_natCast]); (try simp only [Int.toNat_zero]); (try simp only [true_and]); omega) | ((try dsimp only [Ty.T, Ty.size]); (try simp only [castL_self, Int.toNat_natCast, Int.toNat_zero, true_and, List.length_append, List.length_set, List.length_cons, List.length_nil, Nat.zero_add, Nat.mul_one]); omega) | ((try dsimp only [Ty.T, Ty.size]); (try simp only [castL_self, Int.toNat_natCast, Int.toNat_zero, Int.toNat_one, true_and, List.length_append, List.length_set, List.length_drop, List.length_take, List.length_replicate, List.length_cons, List.length_nil, Nat.zero_add, Nat.mul_one]); omega) | decide | (intros; simp_all; done) | (intros; simp_all; omega)) ?_
                refine hK29 _ _ ?_
                clear hK29
                first | refine AWPD.condP rfl (fun h7 => ?_) (fun h7 => ?_) | refine AWPD.condN rfl (fun h7 => ?_) (fun h7 => ?_) | refine AWPD.condAP rfl (fun h7 => ?_) (fun h7 => ?_) | refine AWPD.condOP rfl (fun h7 => ?_) (fun h7 => ?_) | refine AWPD.condONN rfl (fun h7 => ?_) (fun h7 => ?_) | refine AWPD.condOPN rfl (fun h7 => ?_) (fun h7 => ?_) | refine AWPD.condA rfl (fun h7 => ?_) (fun h7 => ?_) | refine AWPD.condO rfl (fun h7 => ?_) (fun h7 => ?_) | refine AWPD.cond rfl (fun h7 => ?_) (fun h7 => ?_)
                · try dsimp only [Ty.T] at h7
                  try simp only [castL_self] at h7
                  try simp only [Int.toNat_natCast] at h7
                  try simp only [Int.toNat_zero] at h7
                  refine AWPD.seq fun K30 hK30 => ?_
                  -- region 31
                  refine AWPD.keep [0, 1, 3, 10, 14, 18, 21, 22] rfl ?_
                  refine AWPD.region tabOK rfl ?_
                  refine hK30 _ _ ?_
                  clear hK30
                  -- region 32
                  refine AWPD.keep [0, 1, 3, 10, 14, 16, 18, 21, 22] rfl ?_
                  refine AWPD.region tabOK rfl ?_
                  refine hK28 _ _ ?_
                  clear hK28
                  -- region 29
                  refine AWPD.keep [0, 1, 3, 10, 14, 15, 16, 18, 21, 22] rfl ?_
                  refine AWPD.region tabOK rfl ?_
                  repeat refine And.intro (by first | (intro hc; have hh := hc00 (by simpa using hc); omega) | exact fun h => h | exact fun _ => rfl | (intro h; rw [h]; rfl) | omega | ((try dsimp only [Ty.T]); (try simp only [castL_self]); (try simp only [Int.toNat_natCast]); (try simp only [Int.toNat_zero]); (try simp only [true_and]); omega) | (intros; (try dsimp only [Ty.T]); (try simp only [castL_self]); (try simp only [Int.toNat_natCast]); (try simp only [Int.toNat_zero]); (try simp only [true_and]); omega) | ((try dsimp only [Ty.T, Ty.size]); (try simp only [castL_self, Int.toNat_natCast, Int.toNat_zero, true_and, List.length_append, List.length_set, List.length_cons, List.length_nil, Nat.zero_add, Nat.mul_one]); omega) | ((try dsimp only [Ty.T, Ty.size]); (try simp only [castL_self, Int.toNat_natCast, Int.toNat_zero, Int.toNat_one, true_and, List.length_append, List.length_set, List.length_drop, List.length_take, List.length_replicate, List.length_cons, List.length_nil, Nat.zero_add, Nat.mul_one]); omega) | decide | (intros; simp_all; done) | (intros; simp_all; omega)) ?_
                  refine ⟨n0 - 1, q + 1, [], by omega, by omega, ⟨by decide, rfl⟩, trivial, ?_⟩
                  repeat' first | (show (q : Int) = (rfold s (t.getD key.toNat []) (q + 1)).1; rw [rfold_yes h7]) | (show (0 : Int) = (rfold s (t.getD key.toNat []) (q + 1)).2; rw [rfold_yes h7]) | (show (rfold s (t.getD key.toNat []) q).1 = (rfold s (t.getD key.toNat []) (q + 1)).1; rw [rfold_no h7]) | (show (rfold s (t.getD key.toNat []) q).2 = (rfold s (t.getD key.toNat []) (q + 1)).2; rw [rfold_no h7]) | exact True.intro | exact rfl | exact ⟨rfl, rfl⟩ | refine And.intro ?_ ?_
                · try dsimp only [Ty.T] at h7
                  try simp only [castL_self] at h7
                  try simp only [Int.toNat_natCast] at h7
                  try simp only [Int.toNat_zero] at h7
                  refine AWPD.skip ?_
                  refine hK28 _ _ ?_
                  clear hK28
                  -- region 29
                  refine AWPD.keep [0, 1, 3, 10, 14, 15, 16, 18, 21, 22] rfl ?_
                  refine AWPD.region tabOK rfl ?_
                  repeat refine And.intro (by first | (intro hc; have hh := hc00 (by simpa using hc); omega) | exact fun h => h | exact fun _ => rfl | (intro h; rw [h]; rfl) | omega | ((try dsimp only [Ty.T]); (try simp only [castL_self]); (try simp only [Int.toNat_natCast]); (try simp only [Int.toNat_zero]); (try simp only [true_and]); omega) | (intros; (try dsimp only [Ty.T]); (try simp only [castL_self]); (try simp only [Int.toNat_natCast]); (try simp only [Int.toNat_zero]); (try simp only [true_and]); omega) | ((try dsimp only [Ty.T, Ty.size]); (try simp only [castL_self, Int.toNat_natCast, Int.toNat_zero, true_and, List.length_append, List.length_set, List.length_cons, List.length_nil, Nat.zero_add, Nat.mul_one]); omega) | ((try dsimp only [Ty.T, Ty.size]); (try simp only [castL_self, Int.toNat_natCast, Int.toNat_zero, Int.toNat_one, true_and, List.length_append, List.length_set, List.length_drop, List.length_take, List.length_replicate, List.length_cons, List.length_nil, Nat.zero_add, Nat.mul_one]); omega) | decide | (intros; simp_all; done) | (intros; simp_all; omega)) ?_
                  refine ⟨n0 - 1, q + 1, [], by omega, by omega, ⟨by decide, rfl⟩, trivial, ?_⟩
                  repeat' first | (show (q : Int) = (rfold s (t.getD key.toNat []) (q + 1)).1; rw [rfold_yes h7]) | (show (0 : Int) = (rfold s (t.getD key.toNat []) (q + 1)).2; rw [rfold_yes h7]) | (show (rfold s (t.getD key.toNat []) q).1 = (rfold s (t.getD key.toNat []) (q + 1)).1; rw [rfold_no h7]) | (show (rfold s (t.getD key.toNat []) q).2 = (rfold s (t.getD key.toNat []) (q + 1)).2; rw [rfold_no h7]) | exact True.intro | exact rfl | exact ⟨rfl, rfl⟩ | refine And.intro ?_ ?_
              · try dsimp only [Ty.T] at h6
                try simp only [castL_self] at h6
                try simp only [Int.toNat_natCast] at h6
                try simp only [Int.toNat_zero] at h6
                refine AWPD.exit ?_
                refine hK22 _ _ ?_
                clear hK22
                refine AWPD.seq fun K31 hK31 => ?_
                -- region 33
                refine AWPD.keep [0, 1, 3, 10, 14, 15, 16, 18, 21] rfl ?_
                refine AWPD.region tabOK rfl ?_
                refine Exists.intro _ (Exists.intro _ (And.intro (StepD.call (get_fn _ _ _) rfl rfl rfl) (And.intro rfl (And.intro trivial ?_))))
                refine hK31 _ _ ?_
                clear hK31
                refine AWPD.seq fun K32 hK32 => ?_
                -- region 34
                refine AWPD.keep [10, 13, 14, 15, 16, 17, 18, 21] rfl ?_
                refine AWPD.region tabOK rfl ?_
                repeat refine And.intro (by first | (intro hc; have hh := hc00 (by simpa using hc); omega) | exact fun h => h | exact fun _ => rfl | (intro h; rw [h]; rfl) | omega | ((try dsimp only [Ty.T]); (try simp only [castL_self]); (try simp only [Int.toNat_natCast]); (try simp only [Int.toNat_zero]); (try simp only [true_and]); omega) | (intros; (try dsimp only [Ty.T]); (try simp only [castL_self]); (try simp only [Int.toNat_natCast]); (try simp only [Int.toNat_zero]); (try simp only [true_and]); omega) | ((try dsimp only [Ty.T, Ty.size]); (try simp only [castL_self, Int.toNat_natCast, Int.toNat_zero, true_and, List.length_append, List.length_set, List.length_cons, List.length_nil, Nat.zero_add, Nat.mul_one]); omega) | ((try dsimp only [Ty.T, Ty.size]); (try simp only [castL_self, Int.toNat_natCast, Int.toNat_zero, Int.toNat_one, true_and, List.length_append, List.length_set, List.length_drop, List.length_take, List.length_replicate, List.length_cons, List.length_nil, Nat.zero_add, Nat.mul_one]); omega) | decide | (intros; simp_all; done) | (intros; simp_all; omega)) ?_
                refine Exists.intro _ (And.intro (fun hg => StepD.callG errG_stays rfl hG0 (error_fn _ _) rfl rfl rfl) (And.intro rfl ?_))
                repeat refine And.intro (by first | (intro hc; have hh := hc00 (by simpa using hc); omega) | exact fun h => h | exact fun _ => rfl | (intro h; rw [h]; rfl) | omega | ((try dsimp only [Ty.T]); (try simp only [castL_self]); (try simp only [Int.toNat_natCast]); (try simp only [Int.toNat_zero]); (try simp only [true_and]); omega) | (intros; (try dsimp only [Ty.T]); (try simp only [castL_self]); (try simp only [Int.toNat_natCast]); (try simp only [Int.toNat_zero]); (try simp only [true_and]); omega) | ((try dsimp only [Ty.T, Ty.size]); (try simp only [castL_self, Int.toNat_natCast, Int.toNat_zero, true_and, List.length_append, List.length_set, List.length_cons, List.length_nil, Nat.zero_add, Nat.mul_one]); omega) | ((try dsimp only [Ty.T, Ty.size]); (try simp only [castL_self, Int.toNat_natCast, Int.toNat_zero, Int.toNat_one, true_and, List.length_append, List.length_set, List.length_drop, List.length_take, List.length_replicate, List.length_cons, List.length_nil, Nat.zero_add, Nat.mul_one]); omega) | decide | (intros; simp_all; done) | (intros; simp_all; omega)) ?_
                refine hK32 _ _ ?_
                clear hK32
                refine AWPD.ret (And.intro (.inl rfl) ?_)
                -- result 0
                refine RetD.one ?_
                refine fitB rfl ?_
                rw [hgR, ← rfold_first hrow.2, show (t.getD key.toNat []).length = q by omega]
                simp
            · try dsimp only [Ty.T] at h5
              try simp only [castL_self] at h5
              try simp only [Int.toNat_natCast] at h5
              try simp only [Int.toNat_zero] at h5
              have hgR : getR t key s = (0, getF t key s) := by
                unfold getF at h5
                unfold getR getF
                by_cases hch : chk t = 0
                · by_cases hks : (0 ≤ key ∧ key ≤ (t.length : Int) - 1) ∧ (0 ≤ s ∧ s ≤ 23)
                  · rw [if_neg (fun x => x hch), if_pos hks] at h5; exact absurd rfl h5
                  · have hch' : ¬chk t ≠ 0 := fun x => x hch
                    rw [if_neg hch', if_neg hks, if_neg hch', if_neg hks]
                · rw [if_pos hch, if_pos hch]
              refine AWPD.skip ?_
              refine hK22 _ _ ?_
              clear hK22
              refine AWPD.seq fun K33 hK33 => ?_
              -- region 33
              refine AWPD.keep [0, 1, 3, 10, 14, 15, 16, 18, 21] rfl ?_
              refine AWPD.region tabOK rfl ?_
              refine Exists.intro _ (Exists.intro _ (And.intro (StepD.call (get_fn _ _ _) rfl rfl rfl) (And.intro rfl (And.intro trivial ?_))))
              refine hK33 _ _ ?_
              clear hK33
              refine AWPD.seq fun K34 hK34 => ?_
              -- region 34
              refine AWPD.keep [10, 13, 14, 15, 16, 17, 18, 21] rfl ?_
              refine AWPD.region tabOK rfl ?_
              repeat refine And.intro (by first | (intro hc; have hh := hc00 (by simpa using hc); omega) | exact fun h => h | exact fun _ => rfl | (intro h; rw [h]; rfl) | omega | ((try dsimp only [Ty.T]); (try simp only [castL_self]); (try simp only [Int.toNat_natCast]); (try simp only [Int.toNat_zero]); (try simp only [true_and]); omega) | (intros; (try dsimp only [Ty.T]); (try simp only [castL_self]); (try simp only [Int.toNat_natCast]); (try simp only [Int.toNat_zero]); (try simp only [true_and]); omega) | ((try dsimp only [Ty.T, Ty.size]); (try simp only [castL_self, Int.toNat_natCast, Int.toNat_zero, true_and, List.length_append, List.length_set, List.length_cons, List.length_nil, Nat.zero_add, Nat.mul_one]); omega) | ((try dsimp only [Ty.T, Ty.size]); (try simp only [castL_self, Int.toNat_natCast, Int.toNat_zero, Int.toNat_one, true_and, List.length_append, List.length_set, List.length_drop, List.length_take, List.length_replicate, List.length_cons, List.length_nil, Nat.zero_add, Nat.mul_one]); omega) | decide | (intros; simp_all; done) | (intros; simp_all; omega)) ?_
              refine Exists.intro _ (And.intro (fun hg => StepD.callG errG_stays rfl hG0 (error_fn _ _) rfl rfl rfl) (And.intro rfl ?_))
              repeat refine And.intro (by first | (intro hc; have hh := hc00 (by simpa using hc); omega) | exact fun h => h | exact fun _ => rfl | (intro h; rw [h]; rfl) | omega | ((try dsimp only [Ty.T]); (try simp only [castL_self]); (try simp only [Int.toNat_natCast]); (try simp only [Int.toNat_zero]); (try simp only [true_and]); omega) | (intros; (try dsimp only [Ty.T]); (try simp only [castL_self]); (try simp only [Int.toNat_natCast]); (try simp only [Int.toNat_zero]); (try simp only [true_and]); omega) | ((try dsimp only [Ty.T, Ty.size]); (try simp only [castL_self, Int.toNat_natCast, Int.toNat_zero, true_and, List.length_append, List.length_set, List.length_cons, List.length_nil, Nat.zero_add, Nat.mul_one]); omega) | ((try dsimp only [Ty.T, Ty.size]); (try simp only [castL_self, Int.toNat_natCast, Int.toNat_zero, Int.toNat_one, true_and, List.length_append, List.length_set, List.length_drop, List.length_take, List.length_replicate, List.length_cons, List.length_nil, Nat.zero_add, Nat.mul_one]); omega) | decide | (intros; simp_all; done) | (intros; simp_all; omega)) ?_
              refine hK34 _ _ ?_
              clear hK34
              refine AWPD.ret (And.intro (.inl rfl) ?_)
              -- result 1
              refine RetD.one ?_
              refine fitB rfl ?_
              rw [hgR]
              simp
          clear hK20
          refine AWPD.seq fun K35 hK35 => ?_
          -- region 22
          refine AWPD.keep [0, 1, 3, 9, 10, 14, 15, 18, 21] rfl ?_
          refine AWPD.region tabOK rfl ?_
          repeat refine And.intro (by first | (intro hc; have hh := hc00 (by simpa using hc); omega) | exact fun h => h | exact fun _ => rfl | (intro h; rw [h]; rfl) | omega | ((try dsimp only [Ty.T]); (try simp only [castL_self]); (try simp only [Int.toNat_natCast]); (try simp only [Int.toNat_zero]); (try simp only [true_and]); omega) | (intros; (try dsimp only [Ty.T]); (try simp only [castL_self]); (try simp only [Int.toNat_natCast]); (try simp only [Int.toNat_zero]); (try simp only [true_and]); omega) | ((try dsimp only [Ty.T, Ty.size]); (try simp only [castL_self, Int.toNat_natCast, Int.toNat_zero, true_and, List.length_append, List.length_set, List.length_cons, List.length_nil, Nat.zero_add, Nat.mul_one]); omega) | ((try dsimp only [Ty.T, Ty.size]); (try simp only [castL_self, Int.toNat_natCast, Int.toNat_zero, Int.toNat_one, true_and, List.length_append, List.length_set, List.length_drop, List.length_take, List.length_replicate, List.length_cons, List.length_nil, Nat.zero_add, Nat.mul_one]); omega) | decide | (intros; simp_all; done) | (intros; simp_all; omega)) ?_
          refine hK35 _ _ ?_
          clear hK35
          first | refine AWPD.cond rfl (fun h4 => ?_) (fun h4 => ?_)
          · try dsimp only [Ty.T] at h4
            try simp only [castL_self] at h4
            try simp only [Int.toNat_natCast] at h4
            try simp only [Int.toNat_zero] at h4
            -- region 23
            refine AWPD.keep [0, 1, 3, 10, 14, 18, 21] rfl ?_
            refine AWPD.region tabOK rfl ?_
            exact tail20 _ _ _ rfl (by
                refine ⟨by first | (rw [keysL_no h3]; simp; done) | simp, ?_⟩
                have hch : chk t = 0 := by
                  by_cases h : chk t = 0
                  · exact h
                  · simp [h] at h4
                unfold getF
                rw [if_neg (fun x => x hch), if_neg (fun hp => by simp only [hch, decide_true, cond_true, Bool.cond_true_left, Bool.or_eq_true, decide_eq_true_eq] at h4; omega)])
          · try dsimp only [Ty.T] at h4
            try simp only [castL_self] at h4
            try simp only [Int.toNat_natCast] at h4
            try simp only [Int.toNat_zero] at h4
            refine AWPD.skip ?_
            exact tail20 _ _ _ rfl (by
                refine ⟨by first | (rw [keysL_no h3]; simp; done) | simp, ?_⟩
                unfold getF keysE
                by_cases hch : chk t = 0
                · have hch' : ¬chk t ≠ 0 := fun x => x hch
                  rw [if_neg hch', if_neg hch']
                  have hkk : 0 ≤ key ∧ key ≤ (t.length : Int) - 1 := by simp only [hch, decide_true, cond_true, Bool.cond_true_left, Bool.or_eq_false_iff, decide_eq_false_iff_not] at h4; omega
                  by_cases hp : 0 ≤ s ∧ s ≤ 23
                  · rw [if_pos hp, if_pos ⟨hkk, hp⟩]
                  · rw [if_neg hp, if_neg (fun x => hp x.2)]
                · rw [if_pos hch, if_pos hch])
        · try dsimp only [Ty.T] at h3
          try simp only [castL_self] at h3
          try simp only [Int.toNat_natCast] at h3
          try simp only [Int.toNat_zero] at h3
          refine AWPD.skip ?_
          refine hK16 _ _ ?_
          clear hK16
          refine AWPD.seq fun K36 hK36 => ?_
          -- region 20
          have hkl : (keysL t s).length ≤ 6 := by
            by_cases hk : keysE t s = 0
            · have hch : chk t = 0 := by
                by_cases h : chk t = 0
                · exact h
                · unfold keysE at hk; rw [if_pos h] at hk; exact absurd hk h
              have hs2 : 0 ≤ s ∧ s ≤ 23 := by
                unfold keysE at hk
                rw [if_neg (fun x => x hch)] at hk
                split at hk
                · assumption
                · cases hk
              rw [keysL_len hch hs2]; exact (chk_good hch).wide
            · rw [keysL_no hk]; simp
          refine AWPD.keep [0, 1, 3, 9, 10, 14, 15, 18, 19] rfl ?_
          refine AWPD.region tabOK rfl ?_
          refine Exists.intro _ (Exists.intro _ (And.intro (StepD.call (keys_fn _ _) rfl rfl rfl) (And.intro rfl (And.intro trivial ?_))))
          refine hK36 _ _ ?_
          clear hK36
          refine AWPD.seq fun K37 hK37 => ?_
          -- region 21
          refine AWPD.keep [0, 1, 3, 9, 10, 13, 14, 15, 18, 19, 20] rfl ?_
          refine AWPD.region tabOK rfl ?_
          refine Exists.intro _ (Exists.intro _ (And.intro (StepD.callG errG_stays rfl hG0 (error_fn _ _) rfl rfl rfl) (And.intro rfl (And.intro trivial ?_))))
          repeat refine And.intro (by first | (intro hc; have hh := hc00 (by simpa using hc); omega) | exact fun h => h | exact fun _ => rfl | (intro h; rw [h]; rfl) | omega | ((try dsimp only [Ty.T]); (try simp only [castL_self]); (try simp only [Int.toNat_natCast]); (try simp only [Int.toNat_zero]); (try simp only [true_and]); omega) | (intros; (try dsimp only [Ty.T]); (try simp only [castL_self]); (try simp only [Int.toNat_natCast]); (try simp only [Int.toNat_zero]); (try simp only [true_and]); omega) | ((try dsimp only [Ty.T, Ty.size]); (try simp only [castL_self, Int.toNat_natCast, Int.toNat_zero, true_and, List.length_append, List.length_set, List.length_cons, List.length_nil, Nat.zero_add, Nat.mul_one]); omega) | ((try dsimp only [Ty.T, Ty.size]); (try simp only [castL_self, Int.toNat_natCast, Int.toNat_zero, Int.toNat_one, true_and, List.length_append, List.length_set, List.length_drop, List.length_take, List.length_replicate, List.length_cons, List.length_nil, Nat.zero_add, Nat.mul_one]); omega) | decide | (intros; simp_all; done) | (intros; simp_all; omega)) ?_
          refine Exists.intro _ (And.intro (fun hg => StepD.call (by first | exact ints_fn _ _ (by omega) | exact LiftsD.fit (ints_fn (keysL t s) [] (by omega)) ⟨⟨rfl, rfl⟩, ⟨rfl, by decide⟩, trivial⟩) rfl rfl rfl) (And.intro rfl ?_))
          repeat refine And.intro (by first | (intro hc; have hh := hc00 (by simpa using hc); omega) | exact fun h => h | exact fun _ => rfl | (intro h; rw [h]; rfl) | omega | ((try dsimp only [Ty.T]); (try simp only [castL_self]); (try simp only [Int.toNat_natCast]); (try simp only [Int.toNat_zero]); (try simp only [true_and]); omega) | (intros; (try dsimp only [Ty.T]); (try simp only [castL_self]); (try simp only [Int.toNat_natCast]); (try simp only [Int.toNat_zero]); (try simp only [true_and]); omega) | ((try dsimp only [Ty.T, Ty.size]); (try simp only [castL_self, Int.toNat_natCast, Int.toNat_zero, true_and, List.length_append, List.length_set, List.length_cons, List.length_nil, Nat.zero_add, Nat.mul_one]); omega) | ((try dsimp only [Ty.T, Ty.size]); (try simp only [castL_self, Int.toNat_natCast, Int.toNat_zero, Int.toNat_one, true_and, List.length_append, List.length_set, List.length_drop, List.length_take, List.length_replicate, List.length_cons, List.length_nil, Nat.zero_add, Nat.mul_one]); omega) | decide | (intros; simp_all; done) | (intros; simp_all; omega)) ?_
          refine hK37 _ _ ?_
          clear hK37
          refine AWPD.seq fun K38 hK38 => ?_
          have tail38 : ∀ (fr : DF) (b21 : Bool) (e4 : Int), keepF fr [0, 1, 3, 10, 14, 15, 18, 21] [] = some [(21, .b b21), (18, .b true), (15, .i e4), (14, .b true), (10, .b true), (3, .i s), (1, .i key), (0, .sl (.sl .int) t)] → (b21 = true ∧ e4 = getF t key s) → K38 fr [] := by
            intro fr b21 e4 hkf hs
            refine hK38 fr [] (AWPD.keep [0, 1, 3, 10, 14, 15, 18, 21] hkf ?_)
            clear hkf hK38
            obtain ⟨rfl, rfl⟩ := hs
            refine AWPD.seq fun K39 hK39 => ?_
            -- region 24
            refine AWPD.keep [0, 1, 3, 10, 14, 15, 18, 21] rfl ?_
            refine AWPD.region tabOK rfl ?_
            refine hK39 _ _ ?_
            clear hK39
            refine AWPD.seq fun K40 hK40 => ?_
            refine AWPD.seq fun K41 hK41 => ?_
            -- region 25
            refine AWPD.keep [0, 1, 3, 10, 14, 15, 16, 18, 21] rfl ?_
            refine AWPD.region tabOK rfl ?_
            refine hK41 _ _ ?_
            clear hK41
            first | refine AWPD.condP rfl (fun h5 => ?_) (fun h5 => ?_) | refine AWPD.condN rfl (fun h5 => ?_) (fun h5 => ?_) | refine AWPD.condAP rfl (fun h5 => ?_) (fun h5 => ?_) | refine AWPD.condOP rfl (fun h5 => ?_) (fun h5 => ?_) | refine AWPD.condONN rfl (fun h5 => ?_) (fun h5 => ?_) | refine AWPD.condOPN rfl (fun h5 => ?_) (fun h5 => ?_) | refine AWPD.condA rfl (fun h5 => ?_) (fun h5 => ?_) | refine AWPD.condO rfl (fun h5 => ?_) (fun h5 => ?_) | refine AWPD.cond rfl (fun h5 => ?_) (fun h5 => ?_)
            · try dsimp only [Ty.T] at h5
              try simp only [castL_self] at h5
              try simp only [Int.toNat_natCast] at h5
              try simp only [Int.toNat_zero] at h5
              have hch : chk t = 0 := by
                unfold getF at h5
                split at h5
                · rename_i h; exact absurd h5 h
                · omega
              have g := chk_good hch
              have hks : (0 ≤ key ∧ key ≤ (t.length : Int) - 1) ∧ (0 ≤ s ∧ s ≤ 23) := by
                unfold getF at h5
                rw [if_neg (fun x => x hch)] at h5
                split at h5
                · assumption
                · cases h5
              have hrow := good_row g (i := key.toNat) (by omega)
              have hshape := g.shape key.toNat (by omega)
              have hwide := g.wide
              have hgR : getR t key s = firstR s (t.getD key.toNat []) := by unfold getR; rw [if_neg (fun x => x hch), if_pos hks]
              refine AWPD.seq fun K42 hK42 => ?_
              -- region 26
              refine AWPD.keep [0, 1, 3, 10, 14, 16, 18, 21] rfl ?_
              refine AWPD.region tabOK rfl ?_
              refine hK42 _ _ ?_
              clear hK42
              refine AWPD.seq fun K43 hK43 => ?_
              -- region 27
              refine AWPD.keep [0, 1, 3, 10, 14, 15, 16, 18, 21] rfl ?_
              refine AWPD.region tabOK rfl ?_
              refine hK43 _ _ ?_
              clear hK43
              refine AWPD.block ?_
              -- LOOP 0 live [0, 1, 3, 10, 14, 15, 16, 18, 21, 22] changed [15, 16, 22]
              refine AWPD.loopK (σ := Nat) [0, 1, 3, 10, 14, 18, 21] (fun q base => (16, .i (rfold s (t.getD key.toNat []) q).1) :: (15, .i (rfold s (t.getD key.toNat []) q).2) :: (22, .i (q : Int)) :: base) (fun _ => []) (fun n q => n + q = (t.getD key.toNat []).length) ((t.getD key.toNat []).length) 0 [] rfl rfl (by omega) (by decide) trivial (by repeat' first | exact True.intro | exact rfl | exact ⟨rfl, rfl⟩ | refine And.intro ?_ ?_) fun n0 q hI0 => ?_
              have hn0 := hI0
              refine AWPD.seq fun K44 hK44 => ?_
              refine AWPD.seq fun K45 hK45 => ?_
              -- region 28
              refine AWPD.keep [0, 1, 3, 10, 14, 15, 16, 18, 21, 22] rfl ?_
              refine AWPD.region tabOK rfl ?_
              repeat refine And.intro (by first | (intro hc; have hh := hc00 (by simpa using hc); omega) | exact fun h => h | exact fun _ => rfl | (intro h; rw [h]; rfl) | omega | ((try dsimp only [Ty.T]); (try simp only [castL_self]); (try simp only [Int.toNat_natCast]); (try simp only [Int.toNat_zero]); (try simp only [true_and]); omega) | (intros; (try dsimp only [Ty.T]); (try simp only [castL_self]); (try simp only [Int.toNat_natCast]); (try simp only [Int.toNat_zero]); (try simp only [true_and]); omega) | ((try dsimp only [Ty.T, Ty.size]); (try simp only [castL_self, Int.toNat_natCast, Int.toNat_zero, true_and, List.length_append, List.length_set, List.length_cons, List.length_nil, Nat.zero_add, Nat.mul_one]); omega) | ((try dsimp only [Ty.T, Ty.size]); (try simp only [castL_self, Int.toNat_natCast, Int.toNat_zero, Int.toNat_one, true_and, List.length_append, List.length_set, List.length_drop, List.length_take, List.length_replicate, List.length_cons, List.length_nil, Nat.zero_add, Nat.mul_one]); omega) | decide | (intros; simp_all; done) | (intros; simp_all; omega)) ?_
              refine hK45 _ _ ?_
              clear hK45
              first | refine AWPD.condP rfl (fun h6 => ?_) (fun h6 => ?_) | refine AWPD.condN rfl (fun h6 => ?_) (fun h6 => ?_) | refine AWPD.condAP rfl (fun h6 => ?_) (fun h6 => ?_) | refine AWPD.condOP rfl (fun h6 => ?_) (fun h6 => ?_) | refine AWPD.condONN rfl (fun h6 => ?_) (fun h6 => ?_) | refine AWPD.condOPN rfl (fun h6 => ?_) (fun h6 => ?_) | refine AWPD.condA rfl (fun h6 => ?_) (fun h6 => ?_) | refine AWPD.condO rfl (fun h6 => ?_) (fun h6 => ?_) | refine AWPD.cond rfl (fun h6 => ?_) (fun h6 => ?_)
              · try dsimp only [Ty.T] at h6
                try simp only [castL_self] at h6
                try simp only [Int.toNat_natCast] at h6
                try simp only [Int.toNat_zero] at h6
                refine AWPD.skip ?_
                refine hK44 _ _ ?_
                clear hK44
                refine AWPD.seq fun K46 hK46 => ?_
                refine AWPD.block ?_
                refine AWPD.seq fun K47 hK47 => ?_
                -- region 30
                refine AWPD.keep [0, 1, 3, 10, 14, 15, 16, 18, 21, 22] rfl ?_
                refine AWPD.region tabOK rfl ?_
                repeat refine And.intro (by first | (intro hc; have hh := hc00 (by simpa using hc); omega) | exact fun h => h | exact fun _ => rfl | (intro h; rw [h]; rfl) | omega | ((try dsimp only [Ty.T]); (try simp only [castL_self]); (try simp only [Int.toNat_natCast]); (try simp only [Int.toNat_zero]); (try simp only [true_and]); omega) | (intros; (try dsimp only [Ty.T]); (try simp only [castL_self]); (try simp only [Int.toNat_natCast]); (try simp only [Int.toNat_zero]); (try simp only [true_and]); omega) | ((try dsimp only [Ty.T, Ty.size]); (try simp only [castL_self, Int.toNat_natCast, Int.toNat_zero, true_and, List.length_append, List.length_set, List.length_cons, List.length_nil, Nat.zero_add, Nat.mul_one]); omega) | ((try dsimp only [Ty.T, Ty.size]); (try simp only [castL_self, Int.toNat_natCast, Int.toNat_zero, Int.toNat_one, true_and, List.length_append, List.length_set, List.length_drop, List.length_take, List.length_replicate, List.length_cons, List.length_nil, Nat.zero_add, Nat.mul_one]); omega) | decide | (intros; simp_all; done) | (intros; simp_all; omega)) ?_
                refine hK47 _ _ ?_
                clear hK47
                first | refine AWPD.condP rfl (fun h7 => ?_) (fun h7 => ?_) | refine AWPD.condN rfl (fun h7 => ?_) (fun h7 => ?_) | refine AWPD.condAP rfl (fun h7 => ?_) (fun h7 => ?_) | refine AWPD.condOP rfl (fun h7 => ?_) (fun h7 => ?_) | refine AWPD.condONN rfl (fun h7 => ?_) (fun h7 => ?_) | refine AWPD.condOPN rfl (fun h7 => ?_) (fun h7 => ?_) | refine AWPD.condA rfl (fun h7 => ?_) (fun h7 => ?_) | refine AWPD.condO rfl (fun h7 => ?_) (fun h7 => ?_) | refine AWPD.cond rfl (fun h7 => ?_) (fun h7 => ?_)
                · try dsimp only [Ty.T] at h7
                  try simp only [castL_self] at h7
                  try simp only [Int.toNat_natCast] at h7
                  try simp only [Int.toNat_zero] at h7
                  refine AWPD.seq fun K48 hK48 => ?_
                  -- region 31
                  refine AWPD.keep [0, 1, 3, 10, 14, 18, 21, 22] rfl ?_
                  refine AWPD.region tabOK rfl ?_
                  refine hK48 _ _ ?_
                  clear hK48
                  -- region 32
                  refine AWPD.keep [0, 1, 3, 10, 14, 16, 18, 21, 22] rfl ?_
                  refine AWPD.region tabOK rfl ?_
                  refine hK46 _ _ ?_
                  clear hK46
                  -- region 29
                  refine AWPD.keep [0, 1, 3, 10, 14, 15, 16, 18, 21, 22] rfl ?_
                  refine AWPD.region tabOK rfl ?_
                  repeat refine And.intro (by first | (intro hc; have hh := hc00 (by simpa using hc); omega) | exact fun h => h | exact fun _ => rfl | (intro h; rw [h]; rfl) | omega | ((try dsimp only [Ty.T]); (try simp only [castL_self]); (try simp only [Int.toNat_natCast]); (try simp only [Int.toNat_zero]); (try simp only [true_and]); omega) | (intros; (try dsimp only [Ty.T]); (try simp only [castL_self]); (try simp only [Int.toNat_natCast]); (try simp only [Int.toNat_zero]); (try simp only [true_and]); omega) | ((try dsimp only [Ty.T, Ty.size]); (try simp only [castL_self, Int.toNat_natCast, Int.toNat_zero, true_and, List.length_append, List.length_set, List.length_cons, List.length_nil, Nat.zero_add, Nat.mul_one]); omega) | ((try dsimp only [Ty.T, Ty.size]); (try simp only [castL_self, Int.toNat_natCast, Int.toNat_zero, Int.toNat_one, true_and, List.length_append, List.length_set, List.length_drop, List.length_take, List.length_replicate, List.length_cons, List.length_nil, Nat.zero_add, Nat.mul_one]); omega) | decide | (intros; simp_all; done) | (intros; simp_all; omega)) ?_
                  refine ⟨n0 - 1, q + 1, [], by omega, by omega, ⟨by decide, rfl⟩, trivial, ?_⟩
                  repeat' first | (show (q : Int) = (rfold s (t.getD key.toNat []) (q + 1)).1; rw [rfold_yes h7]) | (show (0 : Int) = (rfold s (t.getD key.toNat []) (q + 1)).2; rw [rfold_yes h7]) | (show (rfold s (t.getD key.toNat []) q).1 = (rfold s (t.getD key.toNat []) (q + 1)).1; rw [rfold_no h7]) | (show (rfold s (t.getD key.toNat []) q).2 = (rfold s (t.getD key.toNat []) (q + 1)).2; rw [rfold_no h7]) | exact True.intro | exact rfl | exact ⟨rfl, rfl⟩ | refine And.intro ?_ ?_
                · try dsimp only [Ty.T] at h7
                  try simp only [castL_self] at h7
                  try simp only [Int.toNat_natCast] at h7
                  try simp only [Int.toNat_zero] at h7
                  refine AWPD.skip ?_
                  refine hK46 _ _ ?_
                  clear hK46
                  -- region 29
                  refine AWPD.keep [0, 1, 3, 10, 14, 15, 16, 18, 21, 22] rfl ?_
                  refine AWPD.region tabOK rfl ?_
                  repeat refine And.intro (by first | (intro hc; have hh := hc00 (by simpa using hc); omega) | exact fun h => h | exact fun _ => rfl | (intro h; rw [h]; rfl) | omega | ((try dsimp only [Ty.T]); (try simp only [castL_self]); (try simp only [Int.toNat_natCast]); (try simp only [Int.toNat_zero]); (try simp only [true_and]); omega) | (intros; (try dsimp only [Ty.T]); (try simp only [castL_self]); (try simp only [Int.toNat_natCast]); (try simp only [Int.toNat_zero]); (try simp only [true_and]); omega) | ((try dsimp only [Ty.T, Ty.size]); (try simp only [castL_self, Int.toNat_natCast, Int.toNat_zero, true_and, List.length_append, List.length_set, List.length_cons, List.length_nil, Nat.zero_add, Nat.mul_one]); omega) | ((try dsimp only [Ty.T, Ty.size]); (try simp only [castL_self, Int.toNat_natCast, Int.toNat_zero, Int.toNat_one, true_and, List.length_append, List.length_set, List.length_drop, List.length_take, List.length_replicate, List.length_cons, List.length_nil, Nat.zero_add, Nat.mul_one]); omega) | decide | (intros; simp_all; done) | (intros; simp_all; omega)) ?_
                  refine ⟨n0 - 1, q + 1, [], by omega, by omega, ⟨by decide, rfl⟩, trivial, ?_⟩
                  repeat' first | (show (q : Int) = (rfold s (t.getD key.toNat []) (q + 1)).1; rw [rfold_yes h7]) | (show (0 : Int) = (rfold s (t.getD key.toNat []) (q + 1)).2; rw [rfold_yes h7]) | (show (rfold s (t.getD key.toNat []) q).1 = (rfold s (t.getD key.toNat []) (q + 1)).1; rw [rfold_no h7]) | (show (rfold s (t.getD key.toNat []) q).2 = (rfold s (t.getD key.toNat []) (q + 1)).2; rw [rfold_no h7]) | exact True.intro | exact rfl | exact ⟨rfl, rfl⟩ | refine And.intro ?_ ?_
              · try dsimp only [Ty.T] at h6
                try simp only [castL_self] at h6
                try simp only [Int.toNat_natCast] at h6
                try simp only [Int.toNat_zero] at h6
                refine AWPD.exit ?_
                refine hK40 _ _ ?_
                clear hK40
                refine AWPD.seq fun K49 hK49 => ?_
                -- region 33
                refine AWPD.keep [0, 1, 3, 10, 14, 15, 16, 18, 21] rfl ?_
                refine AWPD.region tabOK rfl ?_
                refine Exists.intro _ (Exists.intro _ (And.intro (StepD.call (get_fn _ _ _) rfl rfl rfl) (And.intro rfl (And.intro trivial ?_))))
                refine hK49 _ _ ?_
                clear hK49
                refine AWPD.seq fun K50 hK50 => ?_
                -- region 34
                refine AWPD.keep [10, 13, 14, 15, 16, 17, 18, 21] rfl ?_
                refine AWPD.region tabOK rfl ?_
                repeat refine And.intro (by first | (intro hc; have hh := hc00 (by simpa using hc); omega) | exact fun h => h | exact fun _ => rfl | (intro h; rw [h]; rfl) | omega | ((try dsimp only [Ty.T]); (try simp only [castL_self]); (try simp only [Int.toNat_natCast]); (try simp only [Int.toNat_zero]); (try simp only [true_and]); omega) | (intros; (try dsimp only [Ty.T]); (try simp only [castL_self]); (try simp only [Int.toNat_natCast]); (try simp only [Int.toNat_zero]); (try simp only [true_and]); omega) | ((try dsimp only [Ty.T, Ty.size]); (try simp only [castL_self, Int.toNat_natCast, Int.toNat_zero, true_and, List.length_append, List.length_set, List.length_cons, List.length_nil, Nat.zero_add, Nat.mul_one]); omega) | ((try dsimp only [Ty.T, Ty.size]); (try simp only [castL_self, Int.toNat_natCast, Int.toNat_zero, Int.toNat_one, true_and, List.length_append, List.length_set, List.length_drop, List.length_take, List.length_replicate, List.length_cons, List.length_nil, Nat.zero_add, Nat.mul_one]); omega) | decide | (intros; simp_all; done) | (intros; simp_all; omega)) ?_
                refine Exists.intro _ (And.intro (fun hg => StepD.callG errG_stays rfl hG0 (error_fn _ _) rfl rfl rfl) (And.intro rfl ?_))
                repeat refine And.intro (by first | (intro hc; have hh := hc00 (by simpa using hc); omega) | exact fun h => h | exact fun _ => rfl | (intro h; rw [h]; rfl) | omega | ((try dsimp only [Ty.T]); (try simp only [castL_self]); (try simp only [Int.toNat_natCast]); (try simp only [Int.toNat_zero]); (try simp only [true_and]); omega) | (intros; (try dsimp only [Ty.T]); (try simp only [castL_self]); (try simp only [Int.toNat_natCast]); (try simp only [Int.toNat_zero]); (try simp only [true_and]); omega) | ((try dsimp only [Ty.T, Ty.size]); (try simp only [castL_self, Int.toNat_natCast, Int.toNat_zero, true_and, List.length_append, List.length_set, List.length_cons, List.length_nil, Nat.zero_add, Nat.mul_one]); omega) | ((try dsimp only [Ty.T, Ty.size]); (try simp only [castL_self, Int.toNat_natCast, Int.toNat_zero, Int.toNat_one, true_and, List.length_append, List.length_set, List.length_drop, List.length_take, List.length_replicate, List.length_cons, List.length_nil, Nat.zero_add, Nat.mul_one]); omega) | decide | (intros; simp_all; done) | (intros; simp_all; omega)) ?_
                refine hK50 _ _ ?_
                clear hK50
                refine AWPD.ret (And.intro (.inl rfl) ?_)
                -- result 2
                refine RetD.one ?_
                refine fitB rfl ?_
                rw [hgR, ← rfold_first hrow.2, show (t.getD key.toNat []).length = q by omega]
                simp
            · try dsimp only [Ty.T] at h5
              try simp only [castL_self] at h5
              try simp only [Int.toNat_natCast] at h5
              try simp only [Int.toNat_zero] at h5
              have hgR : getR t key s = (0, getF t key s) := by
                unfold getF at h5
                unfold getR getF
                by_cases hch : chk t = 0
                · by_cases hks : (0 ≤ key ∧ key ≤ (t.length : Int) - 1) ∧ (0 ≤ s ∧ s ≤ 23)
                  · rw [if_neg (fun x => x hch), if_pos hks] at h5; exact absurd rfl h5
                  · have hch' : ¬chk t ≠ 0 := fun x => x hch
                    rw [if_neg hch', if_neg hks, if_neg hch', if_neg hks]
                · rw [if_pos hch, if_pos hch]
              refine AWPD.skip ?_
              refine hK40 _ _ ?_
              clear hK40
              refine AWPD.seq fun K51 hK51 => ?_
              -- region 33
              refine AWPD.keep [0, 1, 3, 10, 14, 15, 16, 18, 21] rfl ?_
              refine AWPD.region tabOK rfl ?_
              refine Exists.intro _ (Exists.intro _ (And.intro (StepD.call (get_fn _ _ _) rfl rfl rfl) (And.intro rfl (And.intro trivial ?_))))
              refine hK51 _ _ ?_
              clear hK51
              refine AWPD.seq fun K52 hK52 => ?_
              -- region 34
              refine AWPD.keep [10, 13, 14, 15, 16, 17, 18, 21] rfl ?_
              refine AWPD.region tabOK rfl ?_
              repeat refine And.intro (by first | (intro hc; have hh := hc00 (by simpa using hc); omega) | exact fun h => h | exact fun _ => rfl | (intro h; rw [h]; rfl) | omega | ((try dsimp only [Ty.T]); (try simp only [castL_self]); (try simp only [Int.toNat_natCast]); (try simp only [Int.toNat_zero]); (try simp only [true_and]); omega) | (intros; (try dsimp only [Ty.T]); (try simp only [castL_self]); (try simp only [Int.toNat_natCast]); (try simp only [Int.toNat_zero]); (try simp only [true_and]); omega) | ((try dsimp only [Ty.T, Ty.size]); (try simp only [castL_self, Int.toNat_natCast, Int.toNat_zero, true_and, List.length_append, List.length_set, List.length_cons, List.length_nil, Nat.zero_add, Nat.mul_one]); omega) | ((try dsimp only [Ty.T, Ty.size]); (try simp only [castL_self, Int.toNat_natCast, Int.toNat_zero, Int.toNat_one, true_and, List.length_append, List.length_set, List.length_drop, List.length_take, List.length_replicate, List.length_cons, List.length_nil, Nat.zero_add, Nat.mul_one]); omega) | decide | (intros; simp_all; done) | (intros; simp_all; omega)) ?_
              refine Exists.intro _ (And.intro (fun hg => StepD.callG errG_stays rfl hG0 (error_fn _ _) rfl rfl rfl) (And.intro rfl ?_))
              repeat refine And.intro (by first | (intro hc; have hh := hc00 (by simpa using hc); omega) | exact fun h => h | exact fun _ => rfl | (intro h; rw [h]; rfl) | omega | ((try dsimp only [Ty.T]); (try simp only [castL_self]); (try simp only [Int.toNat_natCast]); (try simp only [Int.toNat_zero]); (try simp only [true_and]); omega) | (intros; (try dsimp only [Ty.T]); (try simp only [castL_self]); (try simp only [Int.toNat_natCast]); (try simp only [Int.toNat_zero]); (try simp only [true_and]); omega) | ((try dsimp only [Ty.T, Ty.size]); (try simp only [castL_self, Int.toNat_natCast, Int.toNat_zero, true_and, List.length_append, List.length_set, List.length_cons, List.length_nil, Nat.zero_add, Nat.mul_one]); omega) | ((try dsimp only [Ty.T, Ty.size]); (try simp only [castL_self, Int.toNat_natCast, Int.toNat_zero, Int.toNat_one, true_and, List.length_append, List.length_set, List.length_drop, List.length_take, List.length_replicate, List.length_cons, List.length_nil, Nat.zero_add, Nat.mul_one]); omega) | decide | (intros; simp_all; done) | (intros; simp_all; omega)) ?_
              refine hK52 _ _ ?_
              clear hK52
              refine AWPD.ret (And.intro (.inl rfl) ?_)
              -- result 3
              refine RetD.one ?_
              refine fitB rfl ?_
              rw [hgR]
              simp
          clear hK38
          refine AWPD.seq fun K53 hK53 => ?_
          -- region 22
          refine AWPD.keep [0, 1, 3, 9, 10, 14, 15, 18, 21] rfl ?_
          refine AWPD.region tabOK rfl ?_
          repeat refine And.intro (by first | (intro hc; have hh := hc00 (by simpa using hc); omega) | exact fun h => h | exact fun _ => rfl | (intro h; rw [h]; rfl) | omega | ((try dsimp only [Ty.T]); (try simp only [castL_self]); (try simp only [Int.toNat_natCast]); (try simp only [Int.toNat_zero]); (try simp only [true_and]); omega) | (intros; (try dsimp only [Ty.T]); (try simp only [castL_self]); (try simp only [Int.toNat_natCast]); (try simp only [Int.toNat_zero]); (try simp only [true_and]); omega) | ((try dsimp only [Ty.T, Ty.size]); (try simp only [castL_self, Int.toNat_natCast, Int.toNat_zero, true_and, List.length_append, List.length_set, List.length_cons, List.length_nil, Nat.zero_add, Nat.mul_one]); omega) | ((try dsimp only [Ty.T, Ty.size]); (try simp only [castL_self, Int.toNat_natCast, Int.toNat_zero, Int.toNat_one, true_and, List.length_append, List.length_set, List.length_drop, List.length_take, List.length_replicate, List.length_cons, List.length_nil, Nat.zero_add, Nat.mul_one]); omega) | decide | (intros; simp_all; done) | (intros; simp_all; omega)) ?_
          refine hK53 _ _ ?_
          clear hK53
          first | refine AWPD.cond rfl (fun h4 => ?_) (fun h4 => ?_)
          · try dsimp only [Ty.T] at h4
            try simp only [castL_self] at h4
            try simp only [Int.toNat_natCast] at h4
            try simp only [Int.toNat_zero] at h4
            -- region 23
            refine AWPD.keep [0, 1, 3, 10, 14, 18, 21] rfl ?_
            refine AWPD.region tabOK rfl ?_
            exact tail38 _ _ _ rfl (by
                refine ⟨by first | (rw [keysL_no h3]; simp; done) | simp, ?_⟩
                have hch : chk t = 0 := by
                  by_cases h : chk t = 0
                  · exact h
                  · simp [h] at h4
                unfold getF
                rw [if_neg (fun x => x hch), if_neg (fun hp => by simp only [hch, decide_true, cond_true, Bool.cond_true_left, Bool.or_eq_true, decide_eq_true_eq] at h4; omega)])
          · try dsimp only [Ty.T] at h4
            try simp only [castL_self] at h4
            try simp only [Int.toNat_natCast] at h4
            try simp only [Int.toNat_zero] at h4
            refine AWPD.skip ?_
            exact tail38 _ _ _ rfl (by
                refine ⟨by first | (rw [keysL_no h3]; simp; done) | simp, ?_⟩
                unfold getF keysE
                by_cases hch : chk t = 0
                · have hch' : ¬chk t ≠ 0 := fun x => x hch
                  rw [if_neg hch', if_neg hch']
                  have hkk : 0 ≤ key ∧ key ≤ (t.length : Int) - 1 := by simp only [hch, decide_true, cond_true, Bool.cond_true_left, Bool.or_eq_false_iff, decide_eq_false_iff_not] at h4; omega
                  by_cases hp : 0 ≤ s ∧ s ≤ 23
                  · rw [if_pos hp, if_pos ⟨hkk, hp⟩]
                  · rw [if_neg hp, if_neg (fun x => hp x.2)]
                · rw [if_pos hch, if_pos hch])
      clear hK14
      refine AWPD.seq fun K54 hK54 => ?_
      -- region 15
      refine AWPD.keep [0, 1, 3, 9, 10, 14, 15, 18] rfl ?_
      refine AWPD.region tabOK rfl ?_
      repeat refine And.intro (by first | (intro hc; have hh := hc00 (by simpa using hc); omega) | exact fun h => h | exact fun _ => rfl | (intro h; rw [h]; rfl) | omega | ((try dsimp only [Ty.T]); (try simp only [castL_self]); (try simp only [Int.toNat_natCast]); (try simp only [Int.toNat_zero]); (try simp only [true_and]); omega) | (intros; (try dsimp only [Ty.T]); (try simp only [castL_self]); (try simp only [Int.toNat_natCast]); (try simp only [Int.toNat_zero]); (try simp only [true_and]); omega) | ((try dsimp only [Ty.T, Ty.size]); (try simp only [castL_self, Int.toNat_natCast, Int.toNat_zero, true_and, List.length_append, List.length_set, List.length_cons, List.length_nil, Nat.zero_add, Nat.mul_one]); omega) | ((try dsimp only [Ty.T, Ty.size]); (try simp only [castL_self, Int.toNat_natCast, Int.toNat_zero, Int.toNat_one, true_and, List.length_append, List.length_set, List.length_drop, List.length_take, List.length_replicate, List.length_cons, List.length_nil, Nat.zero_add, Nat.mul_one]); omega) | decide | (intros; simp_all; done) | (intros; simp_all; omega)) ?_
      refine hK54 _ _ ?_
      clear hK54
      first | refine AWPD.cond rfl (fun h2 => ?_) (fun h2 => ?_)
      · try dsimp only [Ty.T] at h2
        try simp only [castL_self] at h2
        try simp only [Int.toNat_natCast] at h2
        try simp only [Int.toNat_zero] at h2
        -- region 16
        refine AWPD.keep [0, 1, 3, 9, 10, 14, 18] rfl ?_
        refine AWPD.region tabOK rfl ?_
        exact tail14 _ _ _ rfl (by
            refine ⟨by simp, ?_⟩
            have hch : chk t = 0 := by
              by_cases h : chk t = 0
              · exact h
              · simp [h] at h2
            unfold keysE
            rw [if_neg (fun x => x hch), if_neg (fun hp => by simp only [hch, decide_true, cond_true, Bool.cond_true_left, Bool.or_eq_true, decide_eq_true_eq] at h2; omega)])
      · try dsimp only [Ty.T] at h2
        try simp only [castL_self] at h2
        try simp only [Int.toNat_natCast] at h2
        try simp only [Int.toNat_zero] at h2
        refine AWPD.skip ?_
        exact tail14 _ _ _ rfl (by
            refine ⟨by simp, ?_⟩
            unfold keysE
            by_cases hch : chk t = 0
            · rw [if_neg (fun x => x hch), if_pos (by simp only [hch, decide_true, cond_true, Bool.cond_true_left, Bool.or_eq_false_iff, decide_eq_false_iff_not] at h2; omega)]; exact hch
            · rw [if_pos hch])
    clear hK10
    refine AWPD.seq fun K55 hK55 => ?_
    -- region 10
    refine AWPD.keep [0, 1, 2, 3, 9, 10, 14, 15, 16] rfl ?_
    refine AWPD.region tabOK rfl ?_
    refine hK55 _ _ ?_
    clear hK55
    first | refine AWPD.condP rfl (fun h1 => ?_) (fun h1 => ?_) | refine AWPD.condN rfl (fun h1 => ?_) (fun h1 => ?_) | refine AWPD.condAP rfl (fun h1 => ?_) (fun h1 => ?_) | refine AWPD.condOP rfl (fun h1 => ?_) (fun h1 => ?_) | refine AWPD.condONN rfl (fun h1 => ?_) (fun h1 => ?_) | refine AWPD.condOPN rfl (fun h1 => ?_) (fun h1 => ?_) | refine AWPD.condA rfl (fun h1 => ?_) (fun h1 => ?_) | refine AWPD.condO rfl (fun h1 => ?_) (fun h1 => ?_) | refine AWPD.cond rfl (fun h1 => ?_) (fun h1 => ?_)
    · try dsimp only [Ty.T] at h1
      try simp only [castL_self] at h1
      try simp only [Int.toNat_natCast] at h1
      try simp only [Int.toNat_zero] at h1
      have hch : chk t = 0 := by
        unfold sendR at h1
        split at h1
        · rename_i h; exact absurd h1 h
        · omega
      have g := chk_good hch
      have hkm : (0 ≤ key ∧ key ≤ (t.length : Int) - 1) ∧ (0 ≤ m ∧ m ≤ ((t.getD 0 []).length : Int) - 1) := by
        unfold sendR at h1
        rw [if_neg (fun x => x hch)] at h1
        split at h1
        · assumption
        · cases h1
      have gsh := g.shape key.toNat (by omega)
      -- region 11
      refine AWPD.keep [0, 1, 2, 3, 9, 10, 14, 15] rfl ?_
      refine AWPD.region tabOK rfl ?_
      repeat refine And.intro (by first | (intro hc; have hh := hc00 (by simpa using hc); omega) | exact fun h => h | exact fun _ => rfl | (intro h; rw [h]; rfl) | omega | ((try dsimp only [Ty.T]); (try simp only [castL_self]); (try simp only [Int.toNat_natCast]); (try simp only [Int.toNat_zero]); (try simp only [true_and]); omega) | (intros; (try dsimp only [Ty.T]); (try simp only [castL_self]); (try simp only [Int.toNat_natCast]); (try simp only [Int.toNat_zero]); (try simp only [true_and]); omega) | ((try dsimp only [Ty.T, Ty.size]); (try simp only [castL_self, Int.toNat_natCast, Int.toNat_zero, true_and, List.length_append, List.length_set, List.length_cons, List.length_nil, Nat.zero_add, Nat.mul_one]); omega) | ((try dsimp only [Ty.T, Ty.size]); (try simp only [castL_self, Int.toNat_natCast, Int.toNat_zero, Int.toNat_one, true_and, List.length_append, List.length_set, List.length_drop, List.length_take, List.length_replicate, List.length_cons, List.length_nil, Nat.zero_add, Nat.mul_one]); omega) | decide | (intros; simp_all; done) | (intros; simp_all; omega)) ?_
      exact tail10 _ _ rfl (by unfold sendR; rw [if_neg (fun x => x hch), if_pos hkm])
    · try dsimp only [Ty.T] at h1
      try simp only [castL_self] at h1
      try simp only [Int.toNat_natCast] at h1
      try simp only [Int.toNat_zero] at h1
      refine AWPD.skip ?_
      exact tail10 _ _ rfl (by rw [send_err h1])
  clear hK8
  refine AWPD.seq fun K56 hK56 => ?_
  -- region 7
  refine AWPD.keep [0, 1, 2, 3, 9, 10, 14, 15] rfl ?_
  refine AWPD.region tabOK rfl ?_
  repeat refine And.intro (by first | (intro hc; have hh := hc00 (by simpa using hc); omega) | exact fun h => h | exact fun _ => rfl | (intro h; rw [h]; rfl) | omega | ((try dsimp only [Ty.T]); (try simp only [castL_self]); (try simp only [Int.toNat_natCast]); (try simp only [Int.toNat_zero]); (try simp only [true_and]); omega) | (intros; (try dsimp only [Ty.T]); (try simp only [castL_self]); (try simp only [Int.toNat_natCast]); (try simp only [Int.toNat_zero]); (try simp only [true_and]); omega) | ((try dsimp only [Ty.T, Ty.size]); (try simp only [castL_self, Int.toNat_natCast, Int.toNat_zero, true_and, List.length_append, List.length_set, List.length_cons, List.length_nil, Nat.zero_add, Nat.mul_one]); omega) | ((try dsimp only [Ty.T, Ty.size]); (try simp only [castL_self, Int.toNat_natCast, Int.toNat_zero, Int.toNat_one, true_and, List.length_append, List.length_set, List.length_drop, List.length_take, List.length_replicate, List.length_cons, List.length_nil, Nat.zero_add, Nat.mul_one]); omega) | decide | (intros; simp_all; done) | (intros; simp_all; omega)) ?_
  refine hK56 _ _ ?_
  clear hK56
  first | refine AWPD.cond rfl (fun h0 => ?_) (fun h0 => ?_)
  · try dsimp only [Ty.T] at h0
    try simp only [castL_self] at h0
    try simp only [Int.toNat_natCast] at h0
    try simp only [Int.toNat_zero] at h0
    -- region 8
    refine AWPD.keep [0, 1, 2, 3, 9, 10, 14] rfl ?_
    refine AWPD.region tabOK rfl ?_
    exact tail8 _ _ _ _ rfl (by
        refine ⟨by simp, by rw [← hpf]; simp, ?_⟩
        have hch : chk t = 0 := by
          by_cases h : chk t = 0
          · exact h
          · simp [h] at h0
        unfold sendR
        rw [if_neg (fun x => x hch), if_neg (fun hp => by simp only [hch, decide_true, cond_true, Bool.cond_true_left, Bool.or_eq_true, decide_eq_true_eq] at h0; omega)])
  · try dsimp only [Ty.T] at h0
    try simp only [castL_self] at h0
    try simp only [Int.toNat_natCast] at h0
    try simp only [Int.toNat_zero] at h0
    refine AWPD.skip ?_
    exact tail8 _ _ _ _ rfl (by
        refine ⟨by simp, by rw [← hpf]; simp, ?_⟩
        unfold sendR
        by_cases hch : chk t = 0
        · rw [if_neg (fun x => x hch), if_pos (by simp only [hch, decide_true, cond_true, Bool.cond_true_left, Bool.or_eq_false_iff, decide_eq_false_iff_not] at h0; omega)]; exact hch
        · rw [if_pos hch])
end Go.Proofs.YtdikoipldcjcpaaDoor
