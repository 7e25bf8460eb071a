/-
  WALKS of machines of parts. Laid by a program of mine out of the operations, with the loops and results told by hand.
-/
import Derived.Test.YtndoigkmdcgjfaaDoorQwBa
import Derived.Test.YtndoigkmdcgjfaaDoorQwQu
namespace Go.Proofs.YtndoigkmdcgjfaaDoor
open Go Go.Qw
set_option maxRecDepth 10000
set_option linter.unusedSimpArgs false
set_option linter.unusedVariables false
set_option linter.unusedSectionVars false


/-- The first of some faults. -/
def fE (f : Nat → Int) : Nat → Int
  | 0 => 0
  | i + 1 => if fE f i ≠ 0 then fE f i else f i
theorem fE_zero {f : Nat → Int} : ∀ {n : Nat}, (∀ i, i < n → f i = 0) → fE f n = 0
  | 0, _ => rfl
  | n + 1, h => by rw [fE, fE_zero (n := n) fun i hi => h i (by omega), if_neg (by simp)]; exact h n (by omega)
theorem fE_of {f : Nat → Int} {n : Nat} (h : fE f n = 0) : ∀ i, i < n → f i = 0 := by
  induction n with
  | zero => intro i hi; omega
  | succ n ih =>
    rw [fE] at h
    split at h
    · rename_i h1; exact absurd h h1
    · rename_i h1
      intro i hi
      by_cases hin : i = n
      · rw [hin]; exact h
      · exact ih (by omega) i (by omega)
theorem fE_stop {f : Nat → Int} {i : Nat} (h : ∀ j, j < i → f j = 0) (hf : f i ≠ 0) : ∀ {n : Nat}, i < n → fE f n = f i
  | n + 1, hn => by
    rw [fE]
    by_cases hin : i = n
    · subst hin
      rw [fE_zero h, if_neg (by simp)]
    · rw [fE_stop h hf (n := n) (by omega), if_pos hf]


def inAll (l : List Int) (hi : Int) : Prop := ∀ a, a < l.length → 0 ≤ l.getD a 0 ∧ l.getD a 0 ≤ hi
instance (l : List Int) (hi : Int) : Decidable (inAll l hi) := by unfold inAll; infer_instance
def stE (P : Int) (A : List Int) (N S : List (List Int)) (s : Nat) : Int :=
  if (N.getD s []).length ≠ A.length ∨ ((S.getD s []).length : Int) ≠ P then 3 else if ¬inAll (N.getD s []) ((N.length : Int) - 1) then 1 else if ¬inAll (S.getD s []) 999999 then 1 else 0
def machE (P : Int) (A : List Int) (N S : List (List Int)) : Int :=
  if ¬(1 ≤ P ∧ P ≤ 5) then 1 else if N.length = 0 then 5 else if 6 < A.length ∨ 16 < N.length then 4 else if S.length ≠ N.length then 3 else if ¬inAll A (P - 1) then 1 else fE (stE P A N S) N.length
theorem machE_st {P : Int} {A : List Int} {N S : List (List Int)} (h0 : 1 ≤ P ∧ P ≤ 5) (h1 : N.length ≠ 0) (h2 : ¬(6 < A.length ∨ 16 < N.length)) (h3 : S.length = N.length) (h4 : inAll A (P - 1)) : machE P A N S = fE (stE P A N S) N.length := by
  unfold machE
  rw [if_neg (fun h => h h0), if_neg h1, if_neg h2, if_neg (fun h => h h3), if_neg (fun h => h h4)]
theorem inAll_bad {l : List Int} {hi : Int} {a : Nat} (ha : a < l.length) (h : ¬(0 ≤ l.getD a 0 ∧ l.getD a 0 ≤ hi)) : ¬inAll l hi := fun H => h (H a ha)
theorem inAll_snoc {l : List Int} {hi : Int} {i : Nat} (h : ∀ a, a < i → 0 ≤ l.getD a 0 ∧ l.getD a 0 ≤ hi) (hn : 0 ≤ l.getD i 0 ∧ l.getD i 0 ≤ hi) : ∀ a, a < i + 1 → 0 ≤ l.getD a 0 ∧ l.getD a 0 ≤ hi := fun a ha => by
  rcases Nat.lt_or_ge a i with h1 | h1
  · exact h a h1
  · rw [show a = i by omega]; exact hn

theorem check_fn (P : Int) (A : List Int) (N S : List (List Int)) : LiftsD Tryd.prog 29 [.agg [.i P, .sl .int A, .sl (.sl .int) N, .sl (.sl .int) S]] (.er 81 (machE P A N S)) := by
  refine LiftsD.of_body 117 [.tmp 2] Tryd.func29 rfl Tryd.ntmps29 (by kernel_rfl) rfl rfl fun w0 X0 => ?_
  refine AWPD.seq fun K1 hK1 => ?_
  -- region 0
  refine AWPD.keep [0] rfl ?_
  refine AWPD.region tabOK rfl ?_
  refine hK1 _ _ ?_
  clear hK1
  refine AWPD.seq fun K2 hK2 => ?_
  refine AWPD.seq fun K3 hK3 => ?_
  -- region 1
  refine AWPD.keep [1] rfl ?_
  refine AWPD.region tabOK rfl ?_
  repeat refine And.intro (by first | exact fun h => h | exact fun _ => rfl | (intro h; rw [h]; rfl) | omega | (intros; (try dsimp only [Ty.T, Ty.size]); (try simp only [castL_self, Int.toNat_natCast, Int.toNat_zero, Int.toNat_one, true_and, List.length_append, List.length_set, List.length_drop, List.length_take, List.length_replicate, List.length_cons, List.length_nil, Nat.zero_add, Nat.mul_one]); omega) | decide | (intros; simp_all; done) | (intros; simp_all; omega)) ?_
  refine Exists.intro _ (Exists.intro _ (And.intro (StepD.call (within_fn _ _ _) rfl rfl rfl) (And.intro rfl (And.intro trivial ?_))))
  refine hK3 _ _ ?_
  clear hK3
  first | refine AWPD.condP rfl (fun h0 => ?_) (fun h0 => ?_) | refine AWPD.condN rfl (fun h0 => ?_) (fun h0 => ?_) | refine AWPD.condAP rfl (fun h0 => ?_) (fun h0 => ?_) | refine AWPD.condOP rfl (fun h0 => ?_) (fun h0 => ?_) | refine AWPD.condONN rfl (fun h0 => ?_) (fun h0 => ?_) | refine AWPD.condOPN rfl (fun h0 => ?_) (fun h0 => ?_) | refine AWPD.condA rfl (fun h0 => ?_) (fun h0 => ?_) | refine AWPD.condO rfl (fun h0 => ?_) (fun h0 => ?_) | refine AWPD.cond rfl (fun h0 => ?_) (fun h0 => ?_)
  · try dsimp only [Ty.T] at h0
    try simp only [castL_self] at h0
    try simp only [Int.toNat_natCast] at h0
    try simp only [Int.toNat_zero] at h0
    refine AWPD.seq fun K4 hK4 => ?_
    -- region 2
    refine AWPD.keep [] rfl ?_
    refine AWPD.region tabOK rfl ?_
    repeat refine And.intro (by first | exact fun h => h | exact fun _ => rfl | (intro h; rw [h]; rfl) | omega | (intros; (try dsimp only [Ty.T, Ty.size]); (try simp only [castL_self, Int.toNat_natCast, Int.toNat_zero, Int.toNat_one, true_and, List.length_append, List.length_set, List.length_drop, List.length_take, List.length_replicate, List.length_cons, List.length_nil, Nat.zero_add, Nat.mul_one]); omega) | decide | (intros; simp_all; done) | (intros; simp_all; omega)) ?_
    refine hK4 _ _ ?_
    clear hK4
    refine AWPD.ret (And.intro (.inl rfl) ?_)
    -- result 0
    refine RetD.one ?_
    exact fitE rfl (by unfold machE; rw [if_pos h0])
  · try dsimp only [Ty.T] at h0
    try simp only [castL_self] at h0
    try simp only [Int.toNat_natCast] at h0
    try simp only [Int.toNat_zero] at h0
    have c0 : 1 ≤ P ∧ P ≤ 5 := by simpa using h0
    refine AWPD.skip ?_
    refine hK2 _ _ ?_
    clear hK2
    refine AWPD.seq fun K5 hK5 => ?_
    refine AWPD.seq fun K6 hK6 => ?_
    -- region 3
    refine AWPD.keep [1] rfl ?_
    refine AWPD.region tabOK rfl ?_
    repeat refine And.intro (by first | exact fun h => h | exact fun _ => rfl | (intro h; rw [h]; rfl) | omega | (intros; (try dsimp only [Ty.T, Ty.size]); (try simp only [castL_self, Int.toNat_natCast, Int.toNat_zero, Int.toNat_one, true_and, List.length_append, List.length_set, List.length_drop, List.length_take, List.length_replicate, List.length_cons, List.length_nil, Nat.zero_add, Nat.mul_one]); omega) | decide | (intros; simp_all; done) | (intros; simp_all; omega)) ?_
    refine hK6 _ _ ?_
    clear hK6
    first | refine AWPD.condP rfl (fun h1 => ?_) (fun h1 => ?_) | refine AWPD.condN rfl (fun h1 => ?_) (fun h1 => ?_) | refine AWPD.condAP rfl (fun h1 => ?_) (fun h1 => ?_) | refine AWPD.condOP rfl (fun h1 => ?_) (fun h1 => ?_) | refine AWPD.condONN rfl (fun h1 => ?_) (fun h1 => ?_) | refine AWPD.condOPN rfl (fun h1 => ?_) (fun h1 => ?_) | refine AWPD.condA rfl (fun h1 => ?_) (fun h1 => ?_) | refine AWPD.condO rfl (fun h1 => ?_) (fun h1 => ?_) | refine AWPD.cond rfl (fun h1 => ?_) (fun h1 => ?_)
    · try dsimp only [Ty.T] at h1
      try simp only [castL_self] at h1
      try simp only [Int.toNat_natCast] at h1
      try simp only [Int.toNat_zero] at h1
      refine AWPD.seq fun K7 hK7 => ?_
      -- region 4
      refine AWPD.keep [] rfl ?_
      refine AWPD.region tabOK rfl ?_
      repeat refine And.intro (by first | exact fun h => h | exact fun _ => rfl | (intro h; rw [h]; rfl) | omega | (intros; (try dsimp only [Ty.T, Ty.size]); (try simp only [castL_self, Int.toNat_natCast, Int.toNat_zero, Int.toNat_one, true_and, List.length_append, List.length_set, List.length_drop, List.length_take, List.length_replicate, List.length_cons, List.length_nil, Nat.zero_add, Nat.mul_one]); omega) | decide | (intros; simp_all; done) | (intros; simp_all; omega)) ?_
      refine hK7 _ _ ?_
      clear hK7
      refine AWPD.ret (And.intro (.inl rfl) ?_)
      -- result 1
      refine RetD.one ?_
      exact fitE rfl (by unfold machE; rw [if_neg (fun h => h c0), if_pos (by omega)])
    · try dsimp only [Ty.T] at h1
      try simp only [castL_self] at h1
      try simp only [Int.toNat_natCast] at h1
      try simp only [Int.toNat_zero] at h1
      refine AWPD.skip ?_
      refine hK5 _ _ ?_
      clear hK5
      refine AWPD.seq fun K8 hK8 => ?_
      refine AWPD.seq fun K9 hK9 => ?_
      -- region 5
      refine AWPD.keep [1] rfl ?_
      refine AWPD.region tabOK rfl ?_
      repeat refine And.intro (by first | exact fun h => h | exact fun _ => rfl | (intro h; rw [h]; rfl) | omega | (intros; (try dsimp only [Ty.T, Ty.size]); (try simp only [castL_self, Int.toNat_natCast, Int.toNat_zero, Int.toNat_one, true_and, List.length_append, List.length_set, List.length_drop, List.length_take, List.length_replicate, List.length_cons, List.length_nil, Nat.zero_add, Nat.mul_one]); omega) | decide | (intros; simp_all; done) | (intros; simp_all; omega)) ?_
      refine hK9 _ _ ?_
      clear hK9
      first | refine AWPD.condP rfl (fun h2 => ?_) (fun h2 => ?_) | refine AWPD.condN rfl (fun h2 => ?_) (fun h2 => ?_) | refine AWPD.condAP rfl (fun h2 => ?_) (fun h2 => ?_) | refine AWPD.condOP rfl (fun h2 => ?_) (fun h2 => ?_) | refine AWPD.condONN rfl (fun h2 => ?_) (fun h2 => ?_) | refine AWPD.condOPN rfl (fun h2 => ?_) (fun h2 => ?_) | refine AWPD.condA rfl (fun h2 => ?_) (fun h2 => ?_) | refine AWPD.condO rfl (fun h2 => ?_) (fun h2 => ?_) | refine AWPD.cond rfl (fun h2 => ?_) (fun h2 => ?_)
      · try dsimp only [Ty.T] at h2
        try simp only [castL_self] at h2
        try simp only [Int.toNat_natCast] at h2
        try simp only [Int.toNat_zero] at h2
        refine AWPD.seq fun K10 hK10 => ?_
        -- region 6
        refine AWPD.keep [] rfl ?_
        refine AWPD.region tabOK rfl ?_
        repeat refine And.intro (by first | exact fun h => h | exact fun _ => rfl | (intro h; rw [h]; rfl) | omega | (intros; (try dsimp only [Ty.T, Ty.size]); (try simp only [castL_self, Int.toNat_natCast, Int.toNat_zero, Int.toNat_one, true_and, List.length_append, List.length_set, List.length_drop, List.length_take, List.length_replicate, List.length_cons, List.length_nil, Nat.zero_add, Nat.mul_one]); omega) | decide | (intros; simp_all; done) | (intros; simp_all; omega)) ?_
        refine hK10 _ _ ?_
        clear hK10
        refine AWPD.ret (And.intro (.inl rfl) ?_)
        -- result 2
        refine RetD.one ?_
        exact fitE rfl (by unfold machE; rw [if_neg (fun h => h c0), if_neg (by omega), if_pos (by omega)])
      · try dsimp only [Ty.T] at h2
        try simp only [castL_self] at h2
        try simp only [Int.toNat_natCast] at h2
        try simp only [Int.toNat_zero] at h2
        refine AWPD.skip ?_
        refine hK8 _ _ ?_
        clear hK8
        refine AWPD.seq fun K11 hK11 => ?_
        refine AWPD.seq fun K12 hK12 => ?_
        -- region 7
        refine AWPD.keep [1] rfl ?_
        refine AWPD.region tabOK rfl ?_
        repeat refine And.intro (by first | exact fun h => h | exact fun _ => rfl | (intro h; rw [h]; rfl) | omega | (intros; (try dsimp only [Ty.T, Ty.size]); (try simp only [castL_self, Int.toNat_natCast, Int.toNat_zero, Int.toNat_one, true_and, List.length_append, List.length_set, List.length_drop, List.length_take, List.length_replicate, List.length_cons, List.length_nil, Nat.zero_add, Nat.mul_one]); omega) | decide | (intros; simp_all; done) | (intros; simp_all; omega)) ?_
        refine hK12 _ _ ?_
        clear hK12
        first | refine AWPD.condP rfl (fun h3 => ?_) (fun h3 => ?_) | refine AWPD.condN rfl (fun h3 => ?_) (fun h3 => ?_) | refine AWPD.condAP rfl (fun h3 => ?_) (fun h3 => ?_) | refine AWPD.condOP rfl (fun h3 => ?_) (fun h3 => ?_) | refine AWPD.condONN rfl (fun h3 => ?_) (fun h3 => ?_) | refine AWPD.condOPN rfl (fun h3 => ?_) (fun h3 => ?_) | refine AWPD.condA rfl (fun h3 => ?_) (fun h3 => ?_) | refine AWPD.condO rfl (fun h3 => ?_) (fun h3 => ?_) | refine AWPD.cond rfl (fun h3 => ?_) (fun h3 => ?_)
        · try dsimp only [Ty.T] at h3
          try simp only [castL_self] at h3
          try simp only [Int.toNat_natCast] at h3
          try simp only [Int.toNat_zero] at h3
          refine AWPD.seq fun K13 hK13 => ?_
          -- region 8
          refine AWPD.keep [] rfl ?_
          refine AWPD.region tabOK rfl ?_
          repeat refine And.intro (by first | exact fun h => h | exact fun _ => rfl | (intro h; rw [h]; rfl) | omega | (intros; (try dsimp only [Ty.T, Ty.size]); (try simp only [castL_self, Int.toNat_natCast, Int.toNat_zero, Int.toNat_one, true_and, List.length_append, List.length_set, List.length_drop, List.length_take, List.length_replicate, List.length_cons, List.length_nil, Nat.zero_add, Nat.mul_one]); omega) | decide | (intros; simp_all; done) | (intros; simp_all; omega)) ?_
          refine hK13 _ _ ?_
          clear hK13
          refine AWPD.ret (And.intro (.inl rfl) ?_)
          -- result 3
          refine RetD.one ?_
          exact fitE rfl (by unfold machE; rw [if_neg (fun h => h c0), if_neg (by omega), if_neg (by omega), if_pos (by omega)])
        · try dsimp only [Ty.T] at h3
          try simp only [castL_self] at h3
          try simp only [Int.toNat_natCast] at h3
          try simp only [Int.toNat_zero] at h3
          refine AWPD.skip ?_
          refine hK11 _ _ ?_
          clear hK11
          refine AWPD.seq fun K14 hK14 => ?_
          refine AWPD.seq fun K15 hK15 => ?_
          -- region 9
          refine AWPD.keep [1] rfl ?_
          refine AWPD.region tabOK rfl ?_
          repeat refine And.intro (by first | exact fun h => h | exact fun _ => rfl | (intro h; rw [h]; rfl) | omega | (intros; (try dsimp only [Ty.T, Ty.size]); (try simp only [castL_self, Int.toNat_natCast, Int.toNat_zero, Int.toNat_one, true_and, List.length_append, List.length_set, List.length_drop, List.length_take, List.length_replicate, List.length_cons, List.length_nil, Nat.zero_add, Nat.mul_one]); omega) | decide | (intros; simp_all; done) | (intros; simp_all; omega)) ?_
          refine hK15 _ _ ?_
          clear hK15
          refine AWPD.block ?_
          -- LOOP 0 live [1, 40, 41, 42] changed [42]
          refine AWPD.loopK (σ := Nat) [1, 40, 41] (fun i base => (42, .i (i : Int)) :: base) (fun _ => []) (fun n i => n + i = A.length ∧ ∀ a, a < i → 0 ≤ A.getD a 0 ∧ A.getD a 0 ≤ P - 1) (A.length) 0 [] rfl rfl (⟨by omega, by intro a ha; omega⟩) (by decide) trivial (by repeat' first | exact True.intro | exact rfl | exact ⟨rfl, rfl⟩ | refine And.intro ?_ ?_) fun n0 i hI0 => ?_
          obtain ⟨hn0, hv0⟩ := hI0
          refine AWPD.seq fun K16 hK16 => ?_
          -- region 10
          refine AWPD.keep [1, 40, 41, 42] rfl ?_
          refine AWPD.region tabOK rfl ?_
          refine hK16 _ _ ?_
          clear hK16
          refine AWPD.seq fun K17 hK17 => ?_
          first | refine AWPD.condP rfl (fun h4 => ?_) (fun h4 => ?_) | refine AWPD.condN rfl (fun h4 => ?_) (fun h4 => ?_) | refine AWPD.condAP rfl (fun h4 => ?_) (fun h4 => ?_) | refine AWPD.condOP rfl (fun h4 => ?_) (fun h4 => ?_) | refine AWPD.condONN rfl (fun h4 => ?_) (fun h4 => ?_) | refine AWPD.condOPN rfl (fun h4 => ?_) (fun h4 => ?_) | refine AWPD.condA rfl (fun h4 => ?_) (fun h4 => ?_) | refine AWPD.condO rfl (fun h4 => ?_) (fun h4 => ?_) | refine AWPD.cond rfl (fun h4 => ?_) (fun h4 => ?_)
          · try dsimp only [Ty.T] at h4
            try simp only [castL_self] at h4
            try simp only [Int.toNat_natCast] at h4
            try simp only [Int.toNat_zero] at h4
            refine AWPD.skip ?_
            refine hK17 _ _ ?_
            clear hK17
            refine AWPD.seq fun K18 hK18 => ?_
            refine AWPD.block ?_
            refine AWPD.seq fun K19 hK19 => ?_
            -- region 11
            refine AWPD.keep [1, 40, 41, 42] rfl ?_
            refine AWPD.region tabOK rfl ?_
            repeat refine And.intro (by first | exact fun h => h | exact fun _ => rfl | (intro h; rw [h]; rfl) | omega | (intros; (try dsimp only [Ty.T, Ty.size]); (try simp only [castL_self, Int.toNat_natCast, Int.toNat_zero, Int.toNat_one, true_and, List.length_append, List.length_set, List.length_drop, List.length_take, List.length_replicate, List.length_cons, List.length_nil, Nat.zero_add, Nat.mul_one]); omega) | decide | (intros; simp_all; done) | (intros; simp_all; omega)) ?_
            refine hK19 _ _ ?_
            clear hK19
            refine AWPD.seq fun K20 hK20 => ?_
            -- region 12
            refine AWPD.keep [1, 4, 40, 41, 42] rfl ?_
            refine AWPD.region tabOK rfl ?_
            repeat refine And.intro (by first | exact fun h => h | exact fun _ => rfl | (intro h; rw [h]; rfl) | omega | (intros; (try dsimp only [Ty.T, Ty.size]); (try simp only [castL_self, Int.toNat_natCast, Int.toNat_zero, Int.toNat_one, true_and, List.length_append, List.length_set, List.length_drop, List.length_take, List.length_replicate, List.length_cons, List.length_nil, Nat.zero_add, Nat.mul_one]); omega) | decide | (intros; simp_all; done) | (intros; simp_all; omega)) ?_
            refine Exists.intro _ (Exists.intro _ (And.intro (StepD.call (within_fn _ _ _) rfl rfl rfl) (And.intro rfl (And.intro trivial ?_))))
            refine hK20 _ _ ?_
            clear hK20
            first | refine AWPD.condP rfl (fun h5 => ?_) (fun h5 => ?_) | refine AWPD.condN rfl (fun h5 => ?_) (fun h5 => ?_) | refine AWPD.condAP rfl (fun h5 => ?_) (fun h5 => ?_) | refine AWPD.condOP rfl (fun h5 => ?_) (fun h5 => ?_) | refine AWPD.condONN rfl (fun h5 => ?_) (fun h5 => ?_) | refine AWPD.condOPN rfl (fun h5 => ?_) (fun h5 => ?_) | refine AWPD.condA rfl (fun h5 => ?_) (fun h5 => ?_) | refine AWPD.condO rfl (fun h5 => ?_) (fun h5 => ?_) | refine AWPD.cond rfl (fun h5 => ?_) (fun h5 => ?_)
            · try dsimp only [Ty.T] at h5
              try simp only [castL_self] at h5
              try simp only [Int.toNat_natCast] at h5
              try simp only [Int.toNat_zero] at h5
              refine AWPD.seq fun K21 hK21 => ?_
              -- region 13
              refine AWPD.keep [] rfl ?_
              refine AWPD.region tabOK rfl ?_
              repeat refine And.intro (by first | exact fun h => h | exact fun _ => rfl | (intro h; rw [h]; rfl) | omega | (intros; (try dsimp only [Ty.T, Ty.size]); (try simp only [castL_self, Int.toNat_natCast, Int.toNat_zero, Int.toNat_one, true_and, List.length_append, List.length_set, List.length_drop, List.length_take, List.length_replicate, List.length_cons, List.length_nil, Nat.zero_add, Nat.mul_one]); omega) | decide | (intros; simp_all; done) | (intros; simp_all; omega)) ?_
              refine hK21 _ _ ?_
              clear hK21
              refine AWPD.ret (And.intro (.inl rfl) ?_)
              -- result 4
              refine RetD.one ?_
              exact fitE rfl (by unfold machE; rw [if_neg (fun h => h c0), if_neg (by omega), if_neg (by omega), if_neg (by omega), if_pos (inAll_bad (a := i) (by omega) h5)])
            · try dsimp only [Ty.T] at h5
              try simp only [castL_self] at h5
              try simp only [Int.toNat_natCast] at h5
              try simp only [Int.toNat_zero] at h5
              refine AWPD.skip ?_
              refine hK18 _ _ ?_
              clear hK18
              -- region 14
              refine AWPD.keep [1, 40, 41, 42] rfl ?_
              refine AWPD.region tabOK rfl ?_
              repeat refine And.intro (by first | exact fun h => h | exact fun _ => rfl | (intro h; rw [h]; rfl) | omega | (intros; (try dsimp only [Ty.T, Ty.size]); (try simp only [castL_self, Int.toNat_natCast, Int.toNat_zero, Int.toNat_one, true_and, List.length_append, List.length_set, List.length_drop, List.length_take, List.length_replicate, List.length_cons, List.length_nil, Nat.zero_add, Nat.mul_one]); omega) | decide | (intros; simp_all; done) | (intros; simp_all; omega)) ?_
              refine ⟨n0 - 1, i + 1, [], by omega, ⟨by omega, inAll_snoc hv0 h5⟩, ⟨by decide, rfl⟩, trivial, ?_⟩
              repeat' first | exact True.intro | exact rfl | exact ⟨rfl, rfl⟩ | refine And.intro ?_ ?_
          · try dsimp only [Ty.T] at h4
            try simp only [castL_self] at h4
            try simp only [Int.toNat_natCast] at h4
            try simp only [Int.toNat_zero] at h4
            refine AWPD.exit ?_
            refine hK14 _ _ ?_
            clear hK14
            refine AWPD.seq fun K22 hK22 => ?_
            refine AWPD.seq fun K23 hK23 => ?_
            -- region 15
            refine AWPD.keep [1] rfl ?_
            refine AWPD.region tabOK rfl ?_
            repeat refine And.intro (by first | exact fun h => h | exact fun _ => rfl | (intro h; rw [h]; rfl) | omega | (intros; (try dsimp only [Ty.T, Ty.size]); (try simp only [castL_self, Int.toNat_natCast, Int.toNat_zero, Int.toNat_one, true_and, List.length_append, List.length_set, List.length_drop, List.length_take, List.length_replicate, List.length_cons, List.length_nil, Nat.zero_add, Nat.mul_one]); omega) | decide | (intros; simp_all; done) | (intros; simp_all; omega)) ?_
            refine hK23 _ _ ?_
            clear hK23
            refine AWPD.block ?_
            -- LOOP 1 live [1, 56, 57] changed [57]
            have c4 : inAll A (P - 1) := fun a ha => hv0 a (by omega)
            have hm := machE_st (N := N) (S := S) c0 (by omega) (by omega) (by omega) c4
            refine AWPD.loopK (σ := Nat) [1, 56] (fun u base => (57, .i (u : Int)) :: base) (fun _ => []) (fun n u => n + u = N.length ∧ ∀ s, s < u → stE P A N S s = 0) (N.length) 0 [] rfl rfl (⟨by omega, by intro s hs; omega⟩) (by decide) trivial (by repeat' first | exact True.intro | exact rfl | exact ⟨rfl, rfl⟩ | refine And.intro ?_ ?_) fun n1 u hI1 => ?_
            obtain ⟨hn1, hv1⟩ := hI1
            refine AWPD.seq fun K24 hK24 => ?_
            -- region 16
            refine AWPD.keep [1, 56, 57] rfl ?_
            refine AWPD.region tabOK rfl ?_
            refine hK24 _ _ ?_
            clear hK24
            refine AWPD.seq fun K25 hK25 => ?_
            first | refine AWPD.condP rfl (fun h6 => ?_) (fun h6 => ?_) | refine AWPD.condN rfl (fun h6 => ?_) (fun h6 => ?_) | refine AWPD.condAP rfl (fun h6 => ?_) (fun h6 => ?_) | refine AWPD.condOP rfl (fun h6 => ?_) (fun h6 => ?_) | refine AWPD.condONN rfl (fun h6 => ?_) (fun h6 => ?_) | refine AWPD.condOPN rfl (fun h6 => ?_) (fun h6 => ?_) | refine AWPD.condA rfl (fun h6 => ?_) (fun h6 => ?_) | refine AWPD.condO rfl (fun h6 => ?_) (fun h6 => ?_) | refine AWPD.cond rfl (fun h6 => ?_) (fun h6 => ?_)
            · try dsimp only [Ty.T] at h6
              try simp only [castL_self] at h6
              try simp only [Int.toNat_natCast] at h6
              try simp only [Int.toNat_zero] at h6
              have hs : (u : Nat) < N.length := by omega
              refine AWPD.skip ?_
              refine hK25 _ _ ?_
              clear hK25
              refine AWPD.seq fun K26 hK26 => ?_
              refine AWPD.block ?_
              refine AWPD.seq fun K27 hK27 => ?_
              -- region 17
              refine AWPD.keep [1, 56, 57] rfl ?_
              refine AWPD.region tabOK rfl ?_
              refine hK27 _ _ ?_
              clear hK27
              refine AWPD.seq fun K28 hK28 => ?_
              refine AWPD.seq fun K29 hK29 => ?_
              -- region 18
              refine AWPD.keep [1, 5, 56, 57] rfl ?_
              refine AWPD.draw tabOK [] rfl (by kernel_rfl) ?_
              repeat refine And.intro (by first | exact fun h => h | exact fun _ => rfl | (intro h; rw [h]; rfl) | omega | (intros; (try dsimp only [Ty.T, Ty.size]); (try simp only [castL_self, Int.toNat_natCast, Int.toNat_zero, Int.toNat_one, true_and, List.length_append, List.length_set, List.length_drop, List.length_take, List.length_replicate, List.length_cons, List.length_nil, Nat.zero_add, Nat.mul_one]); omega) | decide | (intros; simp_all; done) | (intros; simp_all; omega)) ?_
              refine hK29 _ _ ?_
              clear hK29
              first | refine AWPD.condP rfl (fun h7 => ?_) (fun h7 => ?_) | refine AWPD.condN rfl (fun h7 => ?_) (fun h7 => ?_) | refine AWPD.condAP rfl (fun h7 => ?_) (fun h7 => ?_) | refine AWPD.condOP rfl (fun h7 => ?_) (fun h7 => ?_) | refine AWPD.condONN rfl (fun h7 => ?_) (fun h7 => ?_) | refine AWPD.condOPN rfl (fun h7 => ?_) (fun h7 => ?_) | refine AWPD.condA rfl (fun h7 => ?_) (fun h7 => ?_) | refine AWPD.condO rfl (fun h7 => ?_) (fun h7 => ?_) | refine AWPD.cond rfl (fun h7 => ?_) (fun h7 => ?_)
              · try dsimp only [Ty.T] at h7
                try simp only [castL_self] at h7
                try simp only [Int.toNat_natCast] at h7
                try simp only [Int.toNat_zero] at h7
                refine AWPD.seq fun K30 hK30 => ?_
                -- region 19
                refine AWPD.keep [] rfl ?_
                refine AWPD.region tabOK rfl ?_
                repeat refine And.intro (by first | exact fun h => h | exact fun _ => rfl | (intro h; rw [h]; rfl) | omega | (intros; (try dsimp only [Ty.T, Ty.size]); (try simp only [castL_self, Int.toNat_natCast, Int.toNat_zero, Int.toNat_one, true_and, List.length_append, List.length_set, List.length_drop, List.length_take, List.length_replicate, List.length_cons, List.length_nil, Nat.zero_add, Nat.mul_one]); omega) | decide | (intros; simp_all; done) | (intros; simp_all; omega)) ?_
                refine hK30 _ _ ?_
                clear hK30
                refine AWPD.ret (And.intro (.inl rfl) ?_)
                -- result 5
                refine RetD.one ?_
                have he : stE P A N S u = 3 := by unfold stE; rw [if_pos (by omega)]
                exact fitE rfl (by rw [hm, fE_stop hv1 (by rw [he]; decide) hs, he])
              · try dsimp only [Ty.T] at h7
                try simp only [castL_self] at h7
                try simp only [Int.toNat_natCast] at h7
                try simp only [Int.toNat_zero] at h7
                have c7 : (N.getD u []).length = A.length ∧ ((S.getD u []).length : Int) = P := by omega
                refine AWPD.skip ?_
                refine hK28 _ _ ?_
                clear hK28
                refine AWPD.seq fun K31 hK31 => ?_
                refine AWPD.seq fun K32 hK32 => ?_
                -- region 20
                refine AWPD.keep [1, 5, 56, 57] rfl ?_
                refine AWPD.region tabOK rfl ?_
                repeat refine And.intro (by first | exact fun h => h | exact fun _ => rfl | (intro h; rw [h]; rfl) | omega | (intros; (try dsimp only [Ty.T, Ty.size]); (try simp only [castL_self, Int.toNat_natCast, Int.toNat_zero, Int.toNat_one, true_and, List.length_append, List.length_set, List.length_drop, List.length_take, List.length_replicate, List.length_cons, List.length_nil, Nat.zero_add, Nat.mul_one]); omega) | decide | (intros; simp_all; done) | (intros; simp_all; omega)) ?_
                refine hK32 _ _ ?_
                clear hK32
                refine AWPD.block ?_
                -- LOOP 2 live [1, 5, 56, 57, 86, 87, 88] changed [88]
                refine AWPD.loopK (σ := Nat) [1, 5, 56, 57, 86, 87] (fun i base => (88, .i (i : Int)) :: base) (fun _ => []) (fun n i => n + i = (N.getD u []).length ∧ ∀ a, a < i → 0 ≤ (N.getD u []).getD a 0 ∧ (N.getD u []).getD a 0 ≤ (N.length : Int) - 1) ((N.getD u []).length) 0 [] rfl rfl (⟨by omega, by intro a ha; omega⟩) (by decide) trivial (by repeat' first | exact True.intro | exact rfl | exact ⟨rfl, rfl⟩ | refine And.intro ?_ ?_) fun n2 i hI2 => ?_
                obtain ⟨hn2, hv2⟩ := hI2
                refine AWPD.seq fun K33 hK33 => ?_
                -- region 21
                refine AWPD.keep [1, 5, 56, 57, 86, 87, 88] rfl ?_
                refine AWPD.region tabOK rfl ?_
                refine hK33 _ _ ?_
                clear hK33
                refine AWPD.seq fun K34 hK34 => ?_
                first | refine AWPD.condP rfl (fun h8 => ?_) (fun h8 => ?_) | refine AWPD.condN rfl (fun h8 => ?_) (fun h8 => ?_) | refine AWPD.condAP rfl (fun h8 => ?_) (fun h8 => ?_) | refine AWPD.condOP rfl (fun h8 => ?_) (fun h8 => ?_) | refine AWPD.condONN rfl (fun h8 => ?_) (fun h8 => ?_) | refine AWPD.condOPN rfl (fun h8 => ?_) (fun h8 => ?_) | refine AWPD.condA rfl (fun h8 => ?_) (fun h8 => ?_) | refine AWPD.condO rfl (fun h8 => ?_) (fun h8 => ?_) | refine AWPD.cond rfl (fun h8 => ?_) (fun h8 => ?_)
                · try dsimp only [Ty.T] at h8
                  try simp only [castL_self] at h8
                  try simp only [Int.toNat_natCast] at h8
                  try simp only [Int.toNat_zero] at h8
                  refine AWPD.skip ?_
                  refine hK34 _ _ ?_
                  clear hK34
                  refine AWPD.seq fun K35 hK35 => ?_
                  refine AWPD.block ?_
                  refine AWPD.seq fun K36 hK36 => ?_
                  -- region 22
                  refine AWPD.keep [1, 5, 56, 57, 86, 87, 88] rfl ?_
                  refine AWPD.region tabOK rfl ?_
                  repeat refine And.intro (by first | exact fun h => h | exact fun _ => rfl | (intro h; rw [h]; rfl) | omega | (intros; (try dsimp only [Ty.T, Ty.size]); (try simp only [castL_self, Int.toNat_natCast, Int.toNat_zero, Int.toNat_one, true_and, List.length_append, List.length_set, List.length_drop, List.length_take, List.length_replicate, List.length_cons, List.length_nil, Nat.zero_add, Nat.mul_one]); omega) | decide | (intros; simp_all; done) | (intros; simp_all; omega)) ?_
                  refine hK36 _ _ ?_
                  clear hK36
                  refine AWPD.seq fun K37 hK37 => ?_
                  -- region 23
                  refine AWPD.keep [1, 5, 7, 56, 57, 86, 87, 88] rfl ?_
                  refine AWPD.region tabOK rfl ?_
                  repeat refine And.intro (by first | exact fun h => h | exact fun _ => rfl | (intro h; rw [h]; rfl) | omega | (intros; (try dsimp only [Ty.T, Ty.size]); (try simp only [castL_self, Int.toNat_natCast, Int.toNat_zero, Int.toNat_one, true_and, List.length_append, List.length_set, List.length_drop, List.length_take, List.length_replicate, List.length_cons, List.length_nil, Nat.zero_add, Nat.mul_one]); omega) | decide | (intros; simp_all; done) | (intros; simp_all; omega)) ?_
                  refine Exists.intro _ (Exists.intro _ (And.intro (StepD.call (within_fn _ _ _) rfl rfl rfl) (And.intro rfl (And.intro trivial ?_))))
                  refine hK37 _ _ ?_
                  clear hK37
                  first | refine AWPD.condP rfl (fun h9 => ?_) (fun h9 => ?_) | refine AWPD.condN rfl (fun h9 => ?_) (fun h9 => ?_) | refine AWPD.condAP rfl (fun h9 => ?_) (fun h9 => ?_) | refine AWPD.condOP rfl (fun h9 => ?_) (fun h9 => ?_) | refine AWPD.condONN rfl (fun h9 => ?_) (fun h9 => ?_) | refine AWPD.condOPN rfl (fun h9 => ?_) (fun h9 => ?_) | refine AWPD.condA rfl (fun h9 => ?_) (fun h9 => ?_) | refine AWPD.condO rfl (fun h9 => ?_) (fun h9 => ?_) | refine AWPD.cond rfl (fun h9 => ?_) (fun h9 => ?_)
                  · try dsimp only [Ty.T] at h9
                    try simp only [castL_self] at h9
                    try simp only [Int.toNat_natCast] at h9
                    try simp only [Int.toNat_zero] at h9
                    refine AWPD.seq fun K38 hK38 => ?_
                    -- region 24
                    refine AWPD.keep [] rfl ?_
                    refine AWPD.region tabOK rfl ?_
                    repeat refine And.intro (by first | exact fun h => h | exact fun _ => rfl | (intro h; rw [h]; rfl) | omega | (intros; (try dsimp only [Ty.T, Ty.size]); (try simp only [castL_self, Int.toNat_natCast, Int.toNat_zero, Int.toNat_one, true_and, List.length_append, List.length_set, List.length_drop, List.length_take, List.length_replicate, List.length_cons, List.length_nil, Nat.zero_add, Nat.mul_one]); omega) | decide | (intros; simp_all; done) | (intros; simp_all; omega)) ?_
                    refine hK38 _ _ ?_
                    clear hK38
                    refine AWPD.ret (And.intro (.inl rfl) ?_)
                    -- result 6
                    refine RetD.one ?_
                    have he : stE P A N S u = 1 := by unfold stE; rw [if_neg (by omega), if_pos (inAll_bad (a := i) (by omega) h9)]
                    exact fitE rfl (by rw [hm, fE_stop hv1 (by rw [he]; decide) hs, he])
                  · try dsimp only [Ty.T] at h9
                    try simp only [castL_self] at h9
                    try simp only [Int.toNat_natCast] at h9
                    try simp only [Int.toNat_zero] at h9
                    refine AWPD.skip ?_
                    refine hK35 _ _ ?_
                    clear hK35
                    -- region 25
                    refine AWPD.keep [1, 5, 56, 57, 86, 87, 88] rfl ?_
                    refine AWPD.region tabOK rfl ?_
                    repeat refine And.intro (by first | exact fun h => h | exact fun _ => rfl | (intro h; rw [h]; rfl) | omega | (intros; (try dsimp only [Ty.T, Ty.size]); (try simp only [castL_self, Int.toNat_natCast, Int.toNat_zero, Int.toNat_one, true_and, List.length_append, List.length_set, List.length_drop, List.length_take, List.length_replicate, List.length_cons, List.length_nil, Nat.zero_add, Nat.mul_one]); omega) | decide | (intros; simp_all; done) | (intros; simp_all; omega)) ?_
                    refine ⟨n2 - 1, i + 1, [], by omega, ⟨by omega, inAll_snoc hv2 h9⟩, ⟨by decide, rfl⟩, trivial, ?_⟩
                    repeat' first | exact True.intro | exact rfl | exact ⟨rfl, rfl⟩ | refine And.intro ?_ ?_
                · try dsimp only [Ty.T] at h8
                  try simp only [castL_self] at h8
                  try simp only [Int.toNat_natCast] at h8
                  try simp only [Int.toNat_zero] at h8
                  refine AWPD.exit ?_
                  refine hK31 _ _ ?_
                  clear hK31
                  refine AWPD.seq fun K39 hK39 => ?_
                  -- region 26
                  refine AWPD.keep [1, 5, 56, 57] rfl ?_
                  refine AWPD.region tabOK rfl ?_
                  repeat refine And.intro (by first | exact fun h => h | exact fun _ => rfl | (intro h; rw [h]; rfl) | omega | (intros; (try dsimp only [Ty.T, Ty.size]); (try simp only [castL_self, Int.toNat_natCast, Int.toNat_zero, Int.toNat_one, true_and, List.length_append, List.length_set, List.length_drop, List.length_take, List.length_replicate, List.length_cons, List.length_nil, Nat.zero_add, Nat.mul_one]); omega) | decide | (intros; simp_all; done) | (intros; simp_all; omega)) ?_
                  refine hK39 _ _ ?_
                  clear hK39
                  refine AWPD.block ?_
                  -- LOOP 3 live [1, 56, 57, 105, 106, 107] changed [107]
                  refine AWPD.loopK (σ := Nat) [1, 56, 57, 105, 106] (fun k base => (107, .i (k : Int)) :: base) (fun _ => []) (fun n k => n + k = (S.getD u []).length ∧ ∀ a, a < k → 0 ≤ (S.getD u []).getD a 0 ∧ (S.getD u []).getD a 0 ≤ 999999) ((S.getD u []).length) 0 [] rfl rfl (⟨by omega, by intro a ha; omega⟩) (by decide) trivial (by repeat' first | exact True.intro | exact rfl | exact ⟨rfl, rfl⟩ | refine And.intro ?_ ?_) fun n3 k hI3 => ?_
                  obtain ⟨hn3, hv3⟩ := hI3
                  refine AWPD.seq fun K40 hK40 => ?_
                  -- region 27
                  refine AWPD.keep [1, 56, 57, 105, 106, 107] rfl ?_
                  refine AWPD.region tabOK rfl ?_
                  refine hK40 _ _ ?_
                  clear hK40
                  refine AWPD.seq fun K41 hK41 => ?_
                  first | refine AWPD.condP rfl (fun h10 => ?_) (fun h10 => ?_) | refine AWPD.condN rfl (fun h10 => ?_) (fun h10 => ?_) | refine AWPD.condAP rfl (fun h10 => ?_) (fun h10 => ?_) | refine AWPD.condOP rfl (fun h10 => ?_) (fun h10 => ?_) | refine AWPD.condONN rfl (fun h10 => ?_) (fun h10 => ?_) | refine AWPD.condOPN rfl (fun h10 => ?_) (fun h10 => ?_) | refine AWPD.condA rfl (fun h10 => ?_) (fun h10 => ?_) | refine AWPD.condO rfl (fun h10 => ?_) (fun h10 => ?_) | refine AWPD.cond rfl (fun h10 => ?_) (fun h10 => ?_)
                  · try dsimp only [Ty.T] at h10
                    try simp only [castL_self] at h10
                    try simp only [Int.toNat_natCast] at h10
                    try simp only [Int.toNat_zero] at h10
                    refine AWPD.skip ?_
                    refine hK41 _ _ ?_
                    clear hK41
                    refine AWPD.seq fun K42 hK42 => ?_
                    refine AWPD.block ?_
                    refine AWPD.seq fun K43 hK43 => ?_
                    -- region 28
                    refine AWPD.keep [1, 56, 57, 105, 106, 107] rfl ?_
                    refine AWPD.region tabOK rfl ?_
                    repeat refine And.intro (by first | exact fun h => h | exact fun _ => rfl | (intro h; rw [h]; rfl) | omega | (intros; (try dsimp only [Ty.T, Ty.size]); (try simp only [castL_self, Int.toNat_natCast, Int.toNat_zero, Int.toNat_one, true_and, List.length_append, List.length_set, List.length_drop, List.length_take, List.length_replicate, List.length_cons, List.length_nil, Nat.zero_add, Nat.mul_one]); omega) | decide | (intros; simp_all; done) | (intros; simp_all; omega)) ?_
                    refine hK43 _ _ ?_
                    clear hK43
                    refine AWPD.seq fun K44 hK44 => ?_
                    -- region 29
                    refine AWPD.keep [1, 9, 56, 57, 105, 106, 107] rfl ?_
                    refine AWPD.region tabOK rfl ?_
                    refine Exists.intro _ (Exists.intro _ (And.intro (StepD.call (within_fn _ _ _) rfl rfl rfl) (And.intro rfl (And.intro trivial ?_))))
                    refine hK44 _ _ ?_
                    clear hK44
                    first | refine AWPD.condP rfl (fun h11 => ?_) (fun h11 => ?_) | refine AWPD.condN rfl (fun h11 => ?_) (fun h11 => ?_) | refine AWPD.condAP rfl (fun h11 => ?_) (fun h11 => ?_) | refine AWPD.condOP rfl (fun h11 => ?_) (fun h11 => ?_) | refine AWPD.condONN rfl (fun h11 => ?_) (fun h11 => ?_) | refine AWPD.condOPN rfl (fun h11 => ?_) (fun h11 => ?_) | refine AWPD.condA rfl (fun h11 => ?_) (fun h11 => ?_) | refine AWPD.condO rfl (fun h11 => ?_) (fun h11 => ?_) | refine AWPD.cond rfl (fun h11 => ?_) (fun h11 => ?_)
                    · try dsimp only [Ty.T] at h11
                      try simp only [castL_self] at h11
                      try simp only [Int.toNat_natCast] at h11
                      try simp only [Int.toNat_zero] at h11
                      refine AWPD.seq fun K45 hK45 => ?_
                      -- region 30
                      refine AWPD.keep [] rfl ?_
                      refine AWPD.region tabOK rfl ?_
                      repeat refine And.intro (by first | exact fun h => h | exact fun _ => rfl | (intro h; rw [h]; rfl) | omega | (intros; (try dsimp only [Ty.T, Ty.size]); (try simp only [castL_self, Int.toNat_natCast, Int.toNat_zero, Int.toNat_one, true_and, List.length_append, List.length_set, List.length_drop, List.length_take, List.length_replicate, List.length_cons, List.length_nil, Nat.zero_add, Nat.mul_one]); omega) | decide | (intros; simp_all; done) | (intros; simp_all; omega)) ?_
                      refine hK45 _ _ ?_
                      clear hK45
                      refine AWPD.ret (And.intro (.inl rfl) ?_)
                      -- result 7
                      refine RetD.one ?_
                      have he : stE P A N S u = 1 := by unfold stE; rw [if_neg (by omega), if_neg (fun h => h (fun a ha => hv2 a (by omega))), if_pos (inAll_bad (a := k) (by omega) h11)]
                      exact fitE rfl (by rw [hm, fE_stop hv1 (by rw [he]; decide) hs, he])
                    · try dsimp only [Ty.T] at h11
                      try simp only [castL_self] at h11
                      try simp only [Int.toNat_natCast] at h11
                      try simp only [Int.toNat_zero] at h11
                      refine AWPD.skip ?_
                      refine hK42 _ _ ?_
                      clear hK42
                      -- region 31
                      refine AWPD.keep [1, 56, 57, 105, 106, 107] rfl ?_
                      refine AWPD.region tabOK rfl ?_
                      repeat refine And.intro (by first | exact fun h => h | exact fun _ => rfl | (intro h; rw [h]; rfl) | omega | (intros; (try dsimp only [Ty.T, Ty.size]); (try simp only [castL_self, Int.toNat_natCast, Int.toNat_zero, Int.toNat_one, true_and, List.length_append, List.length_set, List.length_drop, List.length_take, List.length_replicate, List.length_cons, List.length_nil, Nat.zero_add, Nat.mul_one]); omega) | decide | (intros; simp_all; done) | (intros; simp_all; omega)) ?_
                      refine ⟨n3 - 1, k + 1, [], by omega, ⟨by omega, inAll_snoc hv3 h11⟩, ⟨by decide, rfl⟩, trivial, ?_⟩
                      repeat' first | exact True.intro | exact rfl | exact ⟨rfl, rfl⟩ | refine And.intro ?_ ?_
                  · try dsimp only [Ty.T] at h10
                    try simp only [castL_self] at h10
                    try simp only [Int.toNat_natCast] at h10
                    try simp only [Int.toNat_zero] at h10
                    refine AWPD.exit ?_
                    refine hK26 _ _ ?_
                    clear hK26
                    -- region 32
                    refine AWPD.keep [1, 56, 57] rfl ?_
                    refine AWPD.region tabOK rfl ?_
                    repeat refine And.intro (by first | exact fun h => h | exact fun _ => rfl | (intro h; rw [h]; rfl) | omega | (intros; (try dsimp only [Ty.T, Ty.size]); (try simp only [castL_self, Int.toNat_natCast, Int.toNat_zero, Int.toNat_one, true_and, List.length_append, List.length_set, List.length_drop, List.length_take, List.length_replicate, List.length_cons, List.length_nil, Nat.zero_add, Nat.mul_one]); omega) | decide | (intros; simp_all; done) | (intros; simp_all; omega)) ?_
                    refine ⟨n1 - 1, u + 1, [], by omega, ⟨by omega, fun s hs => by
                            rcases Nat.lt_or_ge s u with h | h
                            · exact hv1 s h
                            · rw [show s = u by omega]; unfold stE; rw [if_neg (by omega), if_neg (fun h => h (fun a ha => hv2 a (by omega))), if_neg (fun h => h (fun a ha => hv3 a (by omega)))]⟩, ⟨by decide, rfl⟩, trivial, ?_⟩
                    repeat' first | exact True.intro | exact rfl | exact ⟨rfl, rfl⟩ | refine And.intro ?_ ?_
            · try dsimp only [Ty.T] at h6
              try simp only [castL_self] at h6
              try simp only [Int.toNat_natCast] at h6
              try simp only [Int.toNat_zero] at h6
              refine AWPD.exit ?_
              refine hK22 _ _ ?_
              clear hK22
              refine AWPD.seq fun K46 hK46 => ?_
              -- region 33
              refine AWPD.keep [] rfl ?_
              refine AWPD.region tabOK rfl ?_
              refine hK46 _ _ ?_
              clear hK46
              refine AWPD.ret (And.intro (.inl rfl) ?_)
              -- result 8
              refine RetD.one ?_
              exact fitE rfl (by rw [hm, fE_zero fun s hs => hv1 s (by omega)])

def wordE (P : Int) (A : List Int) (N S : List (List Int)) (w : List Int) : Int :=
  if machE P A N S ≠ 0 then machE P A N S else if 40 < w.length then 4 else if inAll w ((A.length : Int) - 1) then 0 else 1
def runE (P : Int) (A : List Int) (N S : List (List Int)) (s : Int) (w : List Int) : Int :=
  if wordE P A N S w ≠ 0 then wordE P A N S w else if 0 ≤ s ∧ s ≤ (N.length : Int) - 1 then 0 else 1
structure GoodM (P : Int) (A : List Int) (N S : List (List Int)) : Prop where
  parts : 1 ≤ P ∧ P ≤ 5
  some : 0 < N.length
  few : N.length ≤ 16
  acts6 : A.length ≤ 6
  lenS : S.length = N.length
  acts : inAll A (P - 1)
  rowN : ∀ s, s < N.length → (N.getD s []).length = A.length
  rowS : ∀ s, s < N.length → ((S.getD s []).length : Int) = P
  next : ∀ s, s < N.length → inAll (N.getD s []) ((N.length : Int) - 1)
  sees : ∀ s, s < N.length → inAll (S.getD s []) 999999
theorem mach_good {P : Int} {A : List Int} {N S : List (List Int)} (h : machE P A N S = 0) : GoodM P A N S := by
  unfold machE at h
  split at h
  · cases h
  · rename_i h0
    split at h
    · cases h
    · split at h
      · cases h
      · split at h
        · cases h
        · split at h
          · cases h
          · rename_i h1 h2 h3 h4
            have hz := fE_of h
            have st : ∀ s, s < N.length → ¬((N.getD s []).length ≠ A.length ∨ ((S.getD s []).length : Int) ≠ P) ∧ inAll (N.getD s []) ((N.length : Int) - 1) ∧ inAll (S.getD s []) 999999 := fun s hs => by
              have := hz s hs
              unfold stE at this
              split at this
              · cases this
              · split at this
                · cases this
                · split at this
                  · cases this
                  · rename_i a b c; exact ⟨a, Decidable.not_not.1 b, Decidable.not_not.1 c⟩
            exact ⟨Decidable.not_not.1 h0, by omega, by omega, by omega, by omega, Decidable.not_not.1 h4, fun s hs => by have := (st s hs).1; omega, fun s hs => by have := (st s hs).1; omega, fun s hs => (st s hs).2.1, fun s hs => (st s hs).2.2⟩
theorem word_ok {P : Int} {A : List Int} {N S : List (List Int)} {w : List Int} (h : wordE P A N S w = 0) : machE P A N S = 0 ∧ w.length ≤ 40 ∧ inAll w ((A.length : Int) - 1) := by
  unfold wordE at h
  split at h
  · rename_i h1; exact absurd h h1
  · split at h
    · cases h
    · split at h
      · exact ⟨by omega, by omega, by assumption⟩
      · cases h
theorem word_zero {P : Int} {A : List Int} {N S : List (List Int)} {w : List Int} (h : machE P A N S = 0) (h1 : w.length ≤ 40) (h2 : inAll w ((A.length : Int) - 1)) : wordE P A N S w = 0 := by
  unfold wordE; rw [if_neg (by omega), if_neg (by omega), if_pos h2]
theorem run_ok {P : Int} {A : List Int} {N S : List (List Int)} {s : Int} {w : List Int} (h : runE P A N S s w = 0) : wordE P A N S w = 0 ∧ 0 ≤ s ∧ s ≤ (N.length : Int) - 1 := by
  unfold runE at h
  split at h
  · rename_i h1; exact absurd h h1
  · split at h
    · rename_i h1 h2; exact ⟨by omega, h2⟩
    · cases h
/-- The state behind the first i acts. -/
def runN (N : List (List Int)) (s : Int) (w : List Int) : Nat → Int
  | 0 => s
  | i + 1 => (N.getD (runN N s w i).toNat []).getD (w.getD i 0).toNat 0
theorem runN_in {P : Int} {A : List Int} {N S : List (List Int)} (g : GoodM P A N S) {s : Int} {w : List Int} (hs : 0 ≤ s ∧ s ≤ (N.length : Int) - 1) (hw : inAll w ((A.length : Int) - 1)) : ∀ i, i ≤ w.length → 0 ≤ runN N s w i ∧ runN N s w i ≤ (N.length : Int) - 1
  | 0, _ => hs
  | i + 1, h => by
    have ih := runN_in g hs hw i (by omega)
    have ha := hw i (by omega)
    have hr := g.rowN (runN N s w i).toNat (by omega)
    exact g.next (runN N s w i).toNat (by omega) (w.getD i 0).toNat (by omega)
def runV (P : Int) (A : List Int) (N S : List (List Int)) (s : Int) (w : List Int) : Int := if runE P A N S s w = 0 then runN N s w w.length else 0

theorem word_fn (P : Int) (A : List Int) (N S : List (List Int)) (w : List Int) : LiftsD Tryd.prog 34 [.agg [.i P, .sl .int A, .sl (.sl .int) N, .sl (.sl .int) S], .sl .int w] (.er 81 (wordE P A N S w)) := by
  refine LiftsD.of_body 32 [.tmp 4] Tryd.func34 rfl Tryd.ntmps34 (by kernel_rfl) rfl rfl fun w0 X0 => ?_
  refine AWPD.seq fun K1 hK1 => ?_
  -- region 0
  refine AWPD.keep [0, 1] rfl ?_
  refine AWPD.region tabOK rfl ?_
  refine hK1 _ _ ?_
  clear hK1
  refine AWPD.seq fun K2 hK2 => ?_
  refine AWPD.seq fun K3 hK3 => ?_
  -- region 1
  refine AWPD.keep [1, 2] rfl ?_
  refine AWPD.region tabOK rfl ?_
  repeat refine And.intro (by first | exact fun h => h | exact fun _ => rfl | (intro h; rw [h]; rfl) | omega | (intros; (try dsimp only [Ty.T, Ty.size]); (try simp only [castL_self, Int.toNat_natCast, Int.toNat_zero, Int.toNat_one, true_and, List.length_append, List.length_set, List.length_drop, List.length_take, List.length_replicate, List.length_cons, List.length_nil, Nat.zero_add, Nat.mul_one]); omega) | decide | (intros; simp_all; done) | (intros; simp_all; omega)) ?_
  refine Exists.intro _ (Exists.intro _ (And.intro (StepD.call (check_fn _ _ _ _) rfl rfl rfl) (And.intro rfl (And.intro trivial ?_))))
  refine hK3 _ _ ?_
  clear hK3
  refine AWPD.seq fun K4 hK4 => ?_
  -- region 2
  refine AWPD.keep [1, 2, 5] rfl ?_
  refine AWPD.region tabOK rfl ?_
  refine hK4 _ _ ?_
  clear hK4
  first | refine AWPD.condP rfl (fun h0 => ?_) (fun h0 => ?_) | refine AWPD.condN rfl (fun h0 => ?_) (fun h0 => ?_) | refine AWPD.condAP rfl (fun h0 => ?_) (fun h0 => ?_) | refine AWPD.condOP rfl (fun h0 => ?_) (fun h0 => ?_) | refine AWPD.condONN rfl (fun h0 => ?_) (fun h0 => ?_) | refine AWPD.condOPN rfl (fun h0 => ?_) (fun h0 => ?_) | refine AWPD.condA rfl (fun h0 => ?_) (fun h0 => ?_) | refine AWPD.condO rfl (fun h0 => ?_) (fun h0 => ?_) | refine AWPD.cond rfl (fun h0 => ?_) (fun h0 => ?_)
  · try dsimp only [Ty.T] at h0
    try simp only [castL_self] at h0
    try simp only [Int.toNat_natCast] at h0
    try simp only [Int.toNat_zero] at h0
    refine AWPD.seq fun K5 hK5 => ?_
    -- region 3
    refine AWPD.keep [5] rfl ?_
    refine AWPD.region tabOK rfl ?_
    refine hK5 _ _ ?_
    clear hK5
    refine AWPD.ret (And.intro (.inl rfl) ?_)
    -- result 0
    refine RetD.one ?_
    exact fitE rfl (by simp [wordE, h0])
  · try dsimp only [Ty.T] at h0
    try simp only [castL_self] at h0
    try simp only [Int.toNat_natCast] at h0
    try simp only [Int.toNat_zero] at h0
    have he : machE P A N S = 0 := by simpa using h0
    have g := mach_good he
    have g6 := g.acts6
    refine AWPD.skip ?_
    refine hK2 _ _ ?_
    clear hK2
    refine AWPD.seq fun K6 hK6 => ?_
    refine AWPD.seq fun K7 hK7 => ?_
    -- region 4
    refine AWPD.keep [1, 2] rfl ?_
    refine AWPD.region tabOK rfl ?_
    refine hK7 _ _ ?_
    clear hK7
    first | refine AWPD.condP rfl (fun h1 => ?_) (fun h1 => ?_) | refine AWPD.condN rfl (fun h1 => ?_) (fun h1 => ?_) | refine AWPD.condAP rfl (fun h1 => ?_) (fun h1 => ?_) | refine AWPD.condOP rfl (fun h1 => ?_) (fun h1 => ?_) | refine AWPD.condONN rfl (fun h1 => ?_) (fun h1 => ?_) | refine AWPD.condOPN rfl (fun h1 => ?_) (fun h1 => ?_) | refine AWPD.condA rfl (fun h1 => ?_) (fun h1 => ?_) | refine AWPD.condO rfl (fun h1 => ?_) (fun h1 => ?_) | refine AWPD.cond rfl (fun h1 => ?_) (fun h1 => ?_)
    · try dsimp only [Ty.T] at h1
      try simp only [castL_self] at h1
      try simp only [Int.toNat_natCast] at h1
      try simp only [Int.toNat_zero] at h1
      refine AWPD.seq fun K8 hK8 => ?_
      -- region 5
      refine AWPD.keep [] rfl ?_
      refine AWPD.region tabOK rfl ?_
      repeat refine And.intro (by first | exact fun h => h | exact fun _ => rfl | (intro h; rw [h]; rfl) | omega | (intros; (try dsimp only [Ty.T, Ty.size]); (try simp only [castL_self, Int.toNat_natCast, Int.toNat_zero, Int.toNat_one, true_and, List.length_append, List.length_set, List.length_drop, List.length_take, List.length_replicate, List.length_cons, List.length_nil, Nat.zero_add, Nat.mul_one]); omega) | decide | (intros; simp_all; done) | (intros; simp_all; omega)) ?_
      refine hK8 _ _ ?_
      clear hK8
      refine AWPD.ret (And.intro (.inl rfl) ?_)
      -- result 1
      refine RetD.one ?_
      exact fitE rfl (by unfold wordE; rw [if_neg h0, if_pos (by omega)])
    · try dsimp only [Ty.T] at h1
      try simp only [castL_self] at h1
      try simp only [Int.toNat_natCast] at h1
      try simp only [Int.toNat_zero] at h1
      refine AWPD.skip ?_
      refine hK6 _ _ ?_
      clear hK6
      refine AWPD.seq fun K9 hK9 => ?_
      refine AWPD.seq fun K10 hK10 => ?_
      -- region 6
      refine AWPD.keep [1, 2] rfl ?_
      refine AWPD.region tabOK rfl ?_
      refine hK10 _ _ ?_
      clear hK10
      refine AWPD.block ?_
      -- LOOP 0 live [2, 17, 18, 19] changed [19]
      refine AWPD.loopK (σ := Nat) [2, 17, 18] (fun i base => (19, .i (i : Int)) :: base) (fun _ => []) (fun n i => n + i = w.length ∧ ∀ a, a < i → 0 ≤ w.getD a 0 ∧ w.getD a 0 ≤ (A.length : Int) - 1) (w.length) 0 [] rfl rfl (⟨by omega, by intro a ha; omega⟩) (by decide) trivial (by repeat' first | exact True.intro | exact rfl | exact ⟨rfl, rfl⟩ | refine And.intro ?_ ?_) fun n0 i hI0 => ?_
      obtain ⟨hn0, hv0⟩ := hI0
      refine AWPD.seq fun K11 hK11 => ?_
      -- region 7
      refine AWPD.keep [2, 17, 18, 19] rfl ?_
      refine AWPD.region tabOK rfl ?_
      refine hK11 _ _ ?_
      clear hK11
      refine AWPD.seq fun K12 hK12 => ?_
      first | refine AWPD.condP rfl (fun h2 => ?_) (fun h2 => ?_) | refine AWPD.condN rfl (fun h2 => ?_) (fun h2 => ?_) | refine AWPD.condAP rfl (fun h2 => ?_) (fun h2 => ?_) | refine AWPD.condOP rfl (fun h2 => ?_) (fun h2 => ?_) | refine AWPD.condONN rfl (fun h2 => ?_) (fun h2 => ?_) | refine AWPD.condOPN rfl (fun h2 => ?_) (fun h2 => ?_) | refine AWPD.condA rfl (fun h2 => ?_) (fun h2 => ?_) | refine AWPD.condO rfl (fun h2 => ?_) (fun h2 => ?_) | refine AWPD.cond rfl (fun h2 => ?_) (fun h2 => ?_)
      · try dsimp only [Ty.T] at h2
        try simp only [castL_self] at h2
        try simp only [Int.toNat_natCast] at h2
        try simp only [Int.toNat_zero] at h2
        refine AWPD.skip ?_
        refine hK12 _ _ ?_
        clear hK12
        refine AWPD.seq fun K13 hK13 => ?_
        refine AWPD.block ?_
        refine AWPD.seq fun K14 hK14 => ?_
        -- region 8
        refine AWPD.keep [2, 17, 18, 19] rfl ?_
        refine AWPD.region tabOK rfl ?_
        repeat refine And.intro (by first | exact fun h => h | exact fun _ => rfl | (intro h; rw [h]; rfl) | omega | (intros; (try dsimp only [Ty.T, Ty.size]); (try simp only [castL_self, Int.toNat_natCast, Int.toNat_zero, Int.toNat_one, true_and, List.length_append, List.length_set, List.length_drop, List.length_take, List.length_replicate, List.length_cons, List.length_nil, Nat.zero_add, Nat.mul_one]); omega) | decide | (intros; simp_all; done) | (intros; simp_all; omega)) ?_
        refine hK14 _ _ ?_
        clear hK14
        refine AWPD.seq fun K15 hK15 => ?_
        -- region 9
        refine AWPD.keep [2, 7, 17, 18, 19] rfl ?_
        refine AWPD.region tabOK rfl ?_
        repeat refine And.intro (by first | exact fun h => h | exact fun _ => rfl | (intro h; rw [h]; rfl) | omega | (intros; (try dsimp only [Ty.T, Ty.size]); (try simp only [castL_self, Int.toNat_natCast, Int.toNat_zero, Int.toNat_one, true_and, List.length_append, List.length_set, List.length_drop, List.length_take, List.length_replicate, List.length_cons, List.length_nil, Nat.zero_add, Nat.mul_one]); omega) | decide | (intros; simp_all; done) | (intros; simp_all; omega)) ?_
        refine Exists.intro _ (Exists.intro _ (And.intro (StepD.call (within_fn _ _ _) rfl rfl rfl) (And.intro rfl (And.intro trivial ?_))))
        refine hK15 _ _ ?_
        clear hK15
        first | refine AWPD.condP rfl (fun h3 => ?_) (fun h3 => ?_) | refine AWPD.condN rfl (fun h3 => ?_) (fun h3 => ?_) | refine AWPD.condAP rfl (fun h3 => ?_) (fun h3 => ?_) | refine AWPD.condOP rfl (fun h3 => ?_) (fun h3 => ?_) | refine AWPD.condONN rfl (fun h3 => ?_) (fun h3 => ?_) | refine AWPD.condOPN rfl (fun h3 => ?_) (fun h3 => ?_) | refine AWPD.condA rfl (fun h3 => ?_) (fun h3 => ?_) | refine AWPD.condO rfl (fun h3 => ?_) (fun h3 => ?_) | refine AWPD.cond rfl (fun h3 => ?_) (fun h3 => ?_)
        · try dsimp only [Ty.T] at h3
          try simp only [castL_self] at h3
          try simp only [Int.toNat_natCast] at h3
          try simp only [Int.toNat_zero] at h3
          refine AWPD.seq fun K16 hK16 => ?_
          -- region 10
          refine AWPD.keep [] rfl ?_
          refine AWPD.region tabOK rfl ?_
          repeat refine And.intro (by first | exact fun h => h | exact fun _ => rfl | (intro h; rw [h]; rfl) | omega | (intros; (try dsimp only [Ty.T, Ty.size]); (try simp only [castL_self, Int.toNat_natCast, Int.toNat_zero, Int.toNat_one, true_and, List.length_append, List.length_set, List.length_drop, List.length_take, List.length_replicate, List.length_cons, List.length_nil, Nat.zero_add, Nat.mul_one]); omega) | decide | (intros; simp_all; done) | (intros; simp_all; omega)) ?_
          refine hK16 _ _ ?_
          clear hK16
          refine AWPD.ret (And.intro (.inl rfl) ?_)
          -- result 2
          refine RetD.one ?_
          exact fitE rfl (by unfold wordE; rw [if_neg h0, if_neg (by omega), if_neg (inAll_bad (a := i) (by omega) h3)])
        · try dsimp only [Ty.T] at h3
          try simp only [castL_self] at h3
          try simp only [Int.toNat_natCast] at h3
          try simp only [Int.toNat_zero] at h3
          refine AWPD.skip ?_
          refine hK13 _ _ ?_
          clear hK13
          -- region 11
          refine AWPD.keep [2, 17, 18, 19] rfl ?_
          refine AWPD.region tabOK rfl ?_
          repeat refine And.intro (by first | exact fun h => h | exact fun _ => rfl | (intro h; rw [h]; rfl) | omega | (intros; (try dsimp only [Ty.T, Ty.size]); (try simp only [castL_self, Int.toNat_natCast, Int.toNat_zero, Int.toNat_one, true_and, List.length_append, List.length_set, List.length_drop, List.length_take, List.length_replicate, List.length_cons, List.length_nil, Nat.zero_add, Nat.mul_one]); omega) | decide | (intros; simp_all; done) | (intros; simp_all; omega)) ?_
          refine ⟨n0 - 1, i + 1, [], by omega, ⟨by omega, inAll_snoc hv0 h3⟩, ⟨by decide, rfl⟩, trivial, ?_⟩
          repeat' first | exact True.intro | exact rfl | exact ⟨rfl, rfl⟩ | refine And.intro ?_ ?_
      · try dsimp only [Ty.T] at h2
        try simp only [castL_self] at h2
        try simp only [Int.toNat_natCast] at h2
        try simp only [Int.toNat_zero] at h2
        refine AWPD.exit ?_
        refine hK9 _ _ ?_
        clear hK9
        refine AWPD.seq fun K17 hK17 => ?_
        -- region 12
        refine AWPD.keep [] rfl ?_
        refine AWPD.region tabOK rfl ?_
        refine hK17 _ _ ?_
        clear hK17
        refine AWPD.ret (And.intro (.inl rfl) ?_)
        -- result 3
        refine RetD.one ?_
        exact fitE rfl (word_zero he (by omega) (fun a ha => hv0 a (by omega))).symm
theorem run_fn (P : Int) (A : List Int) (N S : List (List Int)) (s : Int) (w : List Int) : LiftsD Tryd.prog 36 [.agg [.i P, .sl .int A, .sl (.sl .int) N, .sl (.sl .int) S], .i s, .sl .int w] (.tup [.i (runV P A N S s w), .er 81 (runE P A N S s w)]) := by
  refine LiftsD.of_body 41 [.tmp 6, .tmp 7] Tryd.func36 rfl Tryd.ntmps36 (by kernel_rfl) rfl rfl fun w0 X0 => ?_
  refine AWPD.seq fun K1 hK1 => ?_
  -- region 0
  refine AWPD.keep [0, 1, 2] rfl ?_
  refine AWPD.region tabOK rfl ?_
  refine hK1 _ _ ?_
  clear hK1
  refine AWPD.seq fun K2 hK2 => ?_
  refine AWPD.seq fun K3 hK3 => ?_
  -- region 1
  refine AWPD.keep [1, 2, 3] rfl ?_
  refine AWPD.region tabOK rfl ?_
  repeat refine And.intro (by first | exact fun h => h | exact fun _ => rfl | (intro h; rw [h]; rfl) | omega | (intros; (try dsimp only [Ty.T, Ty.size]); (try simp only [castL_self, Int.toNat_natCast, Int.toNat_zero, Int.toNat_one, true_and, List.length_append, List.length_set, List.length_drop, List.length_take, List.length_replicate, List.length_cons, List.length_nil, Nat.zero_add, Nat.mul_one]); omega) | decide | (intros; simp_all; done) | (intros; simp_all; omega)) ?_
  refine Exists.intro _ (Exists.intro _ (And.intro (StepD.call (word_fn _ _ _ _ _) rfl rfl rfl) (And.intro rfl (And.intro trivial ?_))))
  refine hK3 _ _ ?_
  clear hK3
  refine AWPD.seq fun K4 hK4 => ?_
  -- region 2
  refine AWPD.keep [1, 2, 3, 8] rfl ?_
  refine AWPD.region tabOK rfl ?_
  refine hK4 _ _ ?_
  clear hK4
  first | refine AWPD.condP rfl (fun h0 => ?_) (fun h0 => ?_) | refine AWPD.condN rfl (fun h0 => ?_) (fun h0 => ?_) | refine AWPD.condAP rfl (fun h0 => ?_) (fun h0 => ?_) | refine AWPD.condOP rfl (fun h0 => ?_) (fun h0 => ?_) | refine AWPD.condONN rfl (fun h0 => ?_) (fun h0 => ?_) | refine AWPD.condOPN rfl (fun h0 => ?_) (fun h0 => ?_) | refine AWPD.condA rfl (fun h0 => ?_) (fun h0 => ?_) | refine AWPD.condO rfl (fun h0 => ?_) (fun h0 => ?_) | refine AWPD.cond rfl (fun h0 => ?_) (fun h0 => ?_)
  · try dsimp only [Ty.T] at h0
    try simp only [castL_self] at h0
    try simp only [Int.toNat_natCast] at h0
    try simp only [Int.toNat_zero] at h0
    refine AWPD.seq fun K5 hK5 => ?_
    -- region 3
    refine AWPD.keep [8] rfl ?_
    refine AWPD.region tabOK rfl ?_
    refine hK5 _ _ ?_
    clear hK5
    refine AWPD.ret (And.intro (.inl rfl) ?_)
    -- result 0
    exact ⟨fitI rfl (by simp [runV, runE, h0]), fitE rfl (by simp [runE, h0])⟩
  · try dsimp only [Ty.T] at h0
    try simp only [castL_self] at h0
    try simp only [Int.toNat_natCast] at h0
    try simp only [Int.toNat_zero] at h0
    have he : wordE P A N S w = 0 := by simpa using h0
    obtain ⟨hm, hw40, hw⟩ := word_ok he
    have g := mach_good hm
    have g16 := g.few
    have gs := g.some
    refine AWPD.skip ?_
    refine hK2 _ _ ?_
    clear hK2
    refine AWPD.seq fun K6 hK6 => ?_
    refine AWPD.seq fun K7 hK7 => ?_
    -- region 4
    refine AWPD.keep [1, 2, 3] rfl ?_
    refine AWPD.region tabOK rfl ?_
    repeat refine And.intro (by first | exact fun h => h | exact fun _ => rfl | (intro h; rw [h]; rfl) | omega | (intros; (try dsimp only [Ty.T, Ty.size]); (try simp only [castL_self, Int.toNat_natCast, Int.toNat_zero, Int.toNat_one, true_and, List.length_append, List.length_set, List.length_drop, List.length_take, List.length_replicate, List.length_cons, List.length_nil, Nat.zero_add, Nat.mul_one]); omega) | decide | (intros; simp_all; done) | (intros; simp_all; omega)) ?_
    refine Exists.intro _ (Exists.intro _ (And.intro (StepD.call (within_fn _ _ _) rfl rfl rfl) (And.intro rfl (And.intro trivial ?_))))
    refine hK7 _ _ ?_
    clear hK7
    first | refine AWPD.condP rfl (fun h1 => ?_) (fun h1 => ?_) | refine AWPD.condN rfl (fun h1 => ?_) (fun h1 => ?_) | refine AWPD.condAP rfl (fun h1 => ?_) (fun h1 => ?_) | refine AWPD.condOP rfl (fun h1 => ?_) (fun h1 => ?_) | refine AWPD.condONN rfl (fun h1 => ?_) (fun h1 => ?_) | refine AWPD.condOPN rfl (fun h1 => ?_) (fun h1 => ?_) | refine AWPD.condA rfl (fun h1 => ?_) (fun h1 => ?_) | refine AWPD.condO rfl (fun h1 => ?_) (fun h1 => ?_) | refine AWPD.cond rfl (fun h1 => ?_) (fun h1 => ?_)
    · try dsimp only [Ty.T] at h1
      try simp only [castL_self] at h1
      try simp only [Int.toNat_natCast] at h1
      try simp only [Int.toNat_zero] at h1
      refine AWPD.seq fun K8 hK8 => ?_
      -- region 5
      refine AWPD.keep [] rfl ?_
      refine AWPD.region tabOK rfl ?_
      repeat refine And.intro (by first | exact fun h => h | exact fun _ => rfl | (intro h; rw [h]; rfl) | omega | (intros; (try dsimp only [Ty.T, Ty.size]); (try simp only [castL_self, Int.toNat_natCast, Int.toNat_zero, Int.toNat_one, true_and, List.length_append, List.length_set, List.length_drop, List.length_take, List.length_replicate, List.length_cons, List.length_nil, Nat.zero_add, Nat.mul_one]); omega) | decide | (intros; simp_all; done) | (intros; simp_all; omega)) ?_
      refine hK8 _ _ ?_
      clear hK8
      refine AWPD.ret (And.intro (.inl rfl) ?_)
      -- result 1
      have hr : runE P A N S s w = 1 := by unfold runE; rw [if_neg h0, if_neg h1]
      exact ⟨fitI rfl (by unfold runV; rw [hr]; rfl), fitE rfl hr.symm⟩
    · try dsimp only [Ty.T] at h1
      try simp only [castL_self] at h1
      try simp only [Int.toNat_natCast] at h1
      try simp only [Int.toNat_zero] at h1
      have hs : 0 ≤ s ∧ s ≤ (N.length : Int) - 1 := by simpa using h1
      refine AWPD.skip ?_
      refine hK6 _ _ ?_
      clear hK6
      refine AWPD.seq fun K9 hK9 => ?_
      refine AWPD.seq fun K10 hK10 => ?_
      -- region 6
      refine AWPD.keep [1, 2, 3] rfl ?_
      refine AWPD.region tabOK rfl ?_
      refine hK10 _ _ ?_
      clear hK10
      refine AWPD.block ?_
      -- LOOP 0 live [1, 3, 25, 26, 27] changed [1, 27]
      refine AWPD.loopK (σ := Nat) [3, 25, 26] (fun i base => (1, .i (runN N s w i)) :: (27, .i (i : Int)) :: base) (fun _ => []) (fun n i => n + i = w.length) (w.length) 0 [] rfl rfl (by omega) (by decide) trivial (by repeat' first | exact True.intro | exact rfl | exact ⟨rfl, rfl⟩ | refine And.intro ?_ ?_) fun n0 i hI0 => ?_
      have hn0 := hI0
      refine AWPD.seq fun K11 hK11 => ?_
      -- region 7
      refine AWPD.keep [1, 3, 25, 26, 27] rfl ?_
      refine AWPD.region tabOK rfl ?_
      refine hK11 _ _ ?_
      clear hK11
      refine AWPD.seq fun K12 hK12 => ?_
      first | refine AWPD.condP rfl (fun h2 => ?_) (fun h2 => ?_) | refine AWPD.condN rfl (fun h2 => ?_) (fun h2 => ?_) | refine AWPD.condAP rfl (fun h2 => ?_) (fun h2 => ?_) | refine AWPD.condOP rfl (fun h2 => ?_) (fun h2 => ?_) | refine AWPD.condONN rfl (fun h2 => ?_) (fun h2 => ?_) | refine AWPD.condOPN rfl (fun h2 => ?_) (fun h2 => ?_) | refine AWPD.condA rfl (fun h2 => ?_) (fun h2 => ?_) | refine AWPD.condO rfl (fun h2 => ?_) (fun h2 => ?_) | refine AWPD.cond rfl (fun h2 => ?_) (fun h2 => ?_)
      · try dsimp only [Ty.T] at h2
        try simp only [castL_self] at h2
        try simp only [Int.toNat_natCast] at h2
        try simp only [Int.toNat_zero] at h2
        have hri := runN_in g hs hw i (by omega)
        have hai := hw i (by omega)
        have hrow := g.rowN (runN N s w i).toNat (by omega)
        refine AWPD.skip ?_
        refine hK12 _ _ ?_
        clear hK12
        refine AWPD.seq fun K13 hK13 => ?_
        refine AWPD.block ?_
        refine AWPD.seq fun K14 hK14 => ?_
        -- region 8
        refine AWPD.keep [1, 3, 25, 26, 27] rfl ?_
        refine AWPD.region tabOK rfl ?_
        repeat refine And.intro (by first | exact fun h => h | exact fun _ => rfl | (intro h; rw [h]; rfl) | omega | (intros; (try dsimp only [Ty.T, Ty.size]); (try simp only [castL_self, Int.toNat_natCast, Int.toNat_zero, Int.toNat_one, true_and, List.length_append, List.length_set, List.length_drop, List.length_take, List.length_replicate, List.length_cons, List.length_nil, Nat.zero_add, Nat.mul_one]); omega) | decide | (intros; simp_all; done) | (intros; simp_all; omega)) ?_
        refine hK14 _ _ ?_
        clear hK14
        -- region 9
        refine AWPD.keep [1, 3, 10, 25, 26, 27] rfl ?_
        refine AWPD.region tabOK rfl ?_
        repeat refine And.intro (by first | exact fun h => h | exact fun _ => rfl | (intro h; rw [h]; rfl) | omega | (intros; (try dsimp only [Ty.T, Ty.size]); (try simp only [castL_self, Int.toNat_natCast, Int.toNat_zero, Int.toNat_one, true_and, List.length_append, List.length_set, List.length_drop, List.length_take, List.length_replicate, List.length_cons, List.length_nil, Nat.zero_add, Nat.mul_one]); omega) | decide | (intros; simp_all; done) | (intros; simp_all; omega)) ?_
        refine hK13 _ _ ?_
        clear hK13
        -- region 10
        refine AWPD.keep [1, 3, 25, 26, 27] rfl ?_
        refine AWPD.region tabOK rfl ?_
        repeat refine And.intro (by first | exact fun h => h | exact fun _ => rfl | (intro h; rw [h]; rfl) | omega | (intros; (try dsimp only [Ty.T, Ty.size]); (try simp only [castL_self, Int.toNat_natCast, Int.toNat_zero, Int.toNat_one, true_and, List.length_append, List.length_set, List.length_drop, List.length_take, List.length_replicate, List.length_cons, List.length_nil, Nat.zero_add, Nat.mul_one]); omega) | decide | (intros; simp_all; done) | (intros; simp_all; omega)) ?_
        refine ⟨n0 - 1, i + 1, [], by omega, by omega, ⟨by decide, rfl⟩, trivial, ?_⟩
        repeat' first | exact True.intro | exact rfl | exact ⟨rfl, rfl⟩ | refine And.intro ?_ ?_
      · try dsimp only [Ty.T] at h2
        try simp only [castL_self] at h2
        try simp only [Int.toNat_natCast] at h2
        try simp only [Int.toNat_zero] at h2
        refine AWPD.exit ?_
        refine hK9 _ _ ?_
        clear hK9
        refine AWPD.seq fun K15 hK15 => ?_
        -- region 11
        refine AWPD.keep [1] rfl ?_
        refine AWPD.region tabOK rfl ?_
        refine hK15 _ _ ?_
        clear hK15
        refine AWPD.ret (And.intro (.inl rfl) ?_)
        -- result 2
        have hr : runE P A N S s w = 0 := by unfold runE; rw [if_neg h0, if_pos hs]
        exact ⟨fitI rfl (by unfold runV; rw [if_pos hr, show i = w.length by omega]), fitE rfl hr.symm⟩
end Go.Proofs.YtndoigkmdcgjfaaDoor
