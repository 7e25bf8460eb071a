/-
  WALKS of what several know: each, all together, and what is common; and the laws of it. Laid by a program of mine out of the operations, with the loops and results told by hand.
-/
import Derived.Test.YtkdihpajgmiolaaDoorQwPa
namespace Go.Proofs.YtkdihpajgmiolaaDoor
open Go Go.Qw
set_option maxRecDepth 10000
set_option linter.unusedSimpArgs false
set_option linter.unusedVariables false
set_option linter.unusedSectionVars false


/-- The first of some faults. -/
def fE (f : Nat → Int) : Nat → Int
  | 0 => 0
  | i + 1 => if fE f i ≠ 0 then fE f i else f i
theorem fE_zero {f : Nat → Int} : ∀ {n : Nat}, (∀ i, i < n → f i = 0) → fE f n = 0
  | 0, _ => rfl
  | n + 1, h => by rw [fE, fE_zero (n := n) fun i hi => h i (by omega), if_neg (by simp)]; exact h n (by omega)
theorem fE_of {f : Nat → Int} {n : Nat} (h : fE f n = 0) : ∀ i, i < n → f i = 0 := by
  induction n with
  | zero => intro i hi; omega
  | succ n ih =>
    rw [fE] at h
    split at h
    · rename_i h1; exact absurd h h1
    · rename_i h1
      intro i hi
      by_cases hin : i = n
      · rw [hin]; exact h
      · exact ih (by omega) i (by omega)
theorem fE_stop {f : Nat → Int} {i : Nat} (h : ∀ j, j < i → f j = 0) (hf : f i ≠ 0) : ∀ {n : Nat}, i < n → fE f n = f i
  | n + 1, hn => by
    rw [fE]
    by_cases hin : i = n
    · subst hin
      rw [fE_zero h, if_neg (by simp)]
    · rw [fE_stop h hf (n := n) (by omega), if_pos hf]


abbrev Rows := List (List Int)
def rowE (all : Rows) (i : Nat) : Int := if partE (all.getD i []) ≠ 0 then partE (all.getD i []) else if (all.getD i []).length ≠ (all.getD 0 []).length then 3 else 0
def sevE (all : Rows) (e : Int) : Int := if all.length = 0 then 5 else if 4 < all.length then 4 else if fE (rowE all) all.length ≠ 0 then fE (rowE all) all.length else if maskB e ((all.getD 0 []).length : Int) = true then 0 else 1
structure Sev (all : Rows) (e : Int) : Prop where
  some : 0 < all.length
  few : all.length ≤ 4
  good : ∀ i, i < all.length → partE (all.getD i []) = 0
  len : ∀ i, i < all.length → (all.getD i []).length = (all.getD 0 []).length
  mask : maskB e ((all.getD 0 []).length : Int) = true
theorem rowE_zero {all : Rows} {i : Nat} (h : rowE all i = 0) : partE (all.getD i []) = 0 ∧ (all.getD i []).length = (all.getD 0 []).length := by
  unfold rowE at h
  split at h
  · rename_i h1; exact absurd h h1
  · split at h
    · cases h
    · omega
theorem sev_of {all : Rows} {e : Int} (h : sevE all e = 0) : Sev all e := by
  unfold sevE at h
  split at h
  · cases h
  · split at h
    · cases h
    · split at h
      · rename_i h1; exact absurd h h1
      · split at h
        · rename_i h1 h2 h3 h4
          have hz := fE_of (Decidable.not_not.1 h3)
          exact ⟨by omega, by omega, fun i hi => (rowE_zero (hz i hi)).1, fun i hi => (rowE_zero (hz i hi)).2, h4⟩
        · cases h
theorem sev_zero {all : Rows} {e : Int} (h : Sev all e) : sevE all e = 0 := by
  have hz : fE (rowE all) all.length = 0 := fE_zero fun i hi => by
    unfold rowE
    rw [if_neg (by rw [h.good i hi]; decide), if_neg (by rw [h.len i hi]; simp)]
  have h1 := h.some
  have h2 := h.few
  unfold sevE
  rw [if_neg (by omega), if_neg (by omega), hz, if_neg (by simp), if_pos h.mask]

theorem sev_fn (all : Rows) (e : Int) : LiftsD Tryd.prog 33 [.sl (.sl .int) all, .i e] (.er 66 (sevE all e)) := by
  refine LiftsD.of_body 44 [.tmp 4] Tryd.func33 rfl Tryd.ntmps33 (by kernel_rfl) rfl rfl fun w0 X0 => ?_
  refine AWPD.seq fun K1 hK1 => ?_
  -- region 0
  refine AWPD.keep [0, 1] rfl ?_
  refine AWPD.region tabOK rfl ?_
  refine hK1 _ _ ?_
  clear hK1
  refine AWPD.seq fun K2 hK2 => ?_
  refine AWPD.seq fun K3 hK3 => ?_
  -- region 1
  refine AWPD.keep [0, 1] rfl ?_
  refine AWPD.region tabOK rfl ?_
  refine hK3 _ _ ?_
  clear hK3
  first | refine AWPD.condP rfl (fun h0 => ?_) (fun h0 => ?_) | refine AWPD.condN rfl (fun h0 => ?_) (fun h0 => ?_) | refine AWPD.condAP rfl (fun h0 => ?_) (fun h0 => ?_) | refine AWPD.condOP rfl (fun h0 => ?_) (fun h0 => ?_) | refine AWPD.condONN rfl (fun h0 => ?_) (fun h0 => ?_) | refine AWPD.condOPN rfl (fun h0 => ?_) (fun h0 => ?_) | refine AWPD.condA rfl (fun h0 => ?_) (fun h0 => ?_) | refine AWPD.condO rfl (fun h0 => ?_) (fun h0 => ?_) | refine AWPD.cond rfl (fun h0 => ?_) (fun h0 => ?_)
  · try dsimp only [Ty.T] at h0
    try simp only [castL_self] at h0
    try simp only [Int.toNat_natCast] at h0
    try simp only [Int.toNat_zero] at h0
    refine AWPD.seq fun K4 hK4 => ?_
    -- region 2
    refine AWPD.keep [] rfl ?_
    refine AWPD.region tabOK rfl ?_
    repeat refine And.intro (by first | exact fun h => h | exact fun _ => rfl | (intro h; rw [h]; rfl) | omega | (intros; (try dsimp only [Ty.T, Ty.size]); (try simp only [castL_self, Int.toNat_natCast, Int.toNat_zero, Int.toNat_one, true_and, List.length_append, List.length_set, List.length_drop, List.length_take, List.length_replicate, List.length_cons, List.length_nil, Nat.zero_add, Nat.mul_one]); omega) | decide | (intros; simp_all; done) | (intros; simp_all; omega)) ?_
    refine hK4 _ _ ?_
    clear hK4
    refine AWPD.ret (And.intro (.inl rfl) ?_)
    -- result 0
    refine RetD.one ?_
    exact fitE rfl (by unfold sevE; rw [if_pos (by omega)])
  · try dsimp only [Ty.T] at h0
    try simp only [castL_self] at h0
    try simp only [Int.toNat_natCast] at h0
    try simp only [Int.toNat_zero] at h0
    refine AWPD.skip ?_
    refine hK2 _ _ ?_
    clear hK2
    refine AWPD.seq fun K5 hK5 => ?_
    refine AWPD.seq fun K6 hK6 => ?_
    -- region 3
    refine AWPD.keep [0, 1] rfl ?_
    refine AWPD.region tabOK rfl ?_
    refine hK6 _ _ ?_
    clear hK6
    first | refine AWPD.condP rfl (fun h1 => ?_) (fun h1 => ?_) | refine AWPD.condN rfl (fun h1 => ?_) (fun h1 => ?_) | refine AWPD.condAP rfl (fun h1 => ?_) (fun h1 => ?_) | refine AWPD.condOP rfl (fun h1 => ?_) (fun h1 => ?_) | refine AWPD.condONN rfl (fun h1 => ?_) (fun h1 => ?_) | refine AWPD.condOPN rfl (fun h1 => ?_) (fun h1 => ?_) | refine AWPD.condA rfl (fun h1 => ?_) (fun h1 => ?_) | refine AWPD.condO rfl (fun h1 => ?_) (fun h1 => ?_) | refine AWPD.cond rfl (fun h1 => ?_) (fun h1 => ?_)
    · try dsimp only [Ty.T] at h1
      try simp only [castL_self] at h1
      try simp only [Int.toNat_natCast] at h1
      try simp only [Int.toNat_zero] at h1
      refine AWPD.seq fun K7 hK7 => ?_
      -- region 4
      refine AWPD.keep [] rfl ?_
      refine AWPD.region tabOK rfl ?_
      repeat refine And.intro (by first | exact fun h => h | exact fun _ => rfl | (intro h; rw [h]; rfl) | omega | (intros; (try dsimp only [Ty.T, Ty.size]); (try simp only [castL_self, Int.toNat_natCast, Int.toNat_zero, Int.toNat_one, true_and, List.length_append, List.length_set, List.length_drop, List.length_take, List.length_replicate, List.length_cons, List.length_nil, Nat.zero_add, Nat.mul_one]); omega) | decide | (intros; simp_all; done) | (intros; simp_all; omega)) ?_
      refine hK7 _ _ ?_
      clear hK7
      refine AWPD.ret (And.intro (.inl rfl) ?_)
      -- result 1
      refine RetD.one ?_
      exact fitE rfl (by unfold sevE; rw [if_neg (by omega), if_pos (by omega)])
    · try dsimp only [Ty.T] at h1
      try simp only [castL_self] at h1
      try simp only [Int.toNat_natCast] at h1
      try simp only [Int.toNat_zero] at h1
      refine AWPD.skip ?_
      refine hK5 _ _ ?_
      clear hK5
      refine AWPD.seq fun K8 hK8 => ?_
      refine AWPD.seq fun K9 hK9 => ?_
      -- region 5
      refine AWPD.keep [0, 1] rfl ?_
      refine AWPD.region tabOK rfl ?_
      refine hK9 _ _ ?_
      clear hK9
      refine AWPD.block ?_
      -- LOOP 0 live [0, 1, 16, 17, 18] changed [18]
      refine AWPD.loopK (σ := Nat) [0, 1, 16, 17] (fun i base => (18, .i (i : Int)) :: base) (fun _ => []) (fun n i => n + i = all.length ∧ ∀ j, j < i → rowE all j = 0) (all.length) 0 [] rfl rfl (⟨by omega, by intro j hj; omega⟩) (by decide) trivial (by repeat' first | exact True.intro | exact rfl | exact ⟨rfl, rfl⟩ | refine And.intro ?_ ?_) fun n0 i hI0 => ?_
      obtain ⟨hn0, hv0⟩ := hI0
      refine AWPD.seq fun K10 hK10 => ?_
      -- region 6
      refine AWPD.keep [0, 1, 16, 17, 18] rfl ?_
      refine AWPD.region tabOK rfl ?_
      refine hK10 _ _ ?_
      clear hK10
      refine AWPD.seq fun K11 hK11 => ?_
      first | refine AWPD.condP rfl (fun h2 => ?_) (fun h2 => ?_) | refine AWPD.condN rfl (fun h2 => ?_) (fun h2 => ?_) | refine AWPD.condAP rfl (fun h2 => ?_) (fun h2 => ?_) | refine AWPD.condOP rfl (fun h2 => ?_) (fun h2 => ?_) | refine AWPD.condONN rfl (fun h2 => ?_) (fun h2 => ?_) | refine AWPD.condOPN rfl (fun h2 => ?_) (fun h2 => ?_) | refine AWPD.condA rfl (fun h2 => ?_) (fun h2 => ?_) | refine AWPD.condO rfl (fun h2 => ?_) (fun h2 => ?_) | refine AWPD.cond rfl (fun h2 => ?_) (fun h2 => ?_)
      · try dsimp only [Ty.T] at h2
        try simp only [castL_self] at h2
        try simp only [Int.toNat_natCast] at h2
        try simp only [Int.toNat_zero] at h2
        refine AWPD.skip ?_
        refine hK11 _ _ ?_
        clear hK11
        refine AWPD.seq fun K12 hK12 => ?_
        refine AWPD.block ?_
        refine AWPD.seq fun K13 hK13 => ?_
        -- region 7
        refine AWPD.keep [0, 1, 16, 17, 18] rfl ?_
        refine AWPD.region tabOK rfl ?_
        repeat refine And.intro (by first | exact fun h => h | exact fun _ => rfl | (intro h; rw [h]; rfl) | omega | (intros; (try dsimp only [Ty.T, Ty.size]); (try simp only [castL_self, Int.toNat_natCast, Int.toNat_zero, Int.toNat_one, true_and, List.length_append, List.length_set, List.length_drop, List.length_take, List.length_replicate, List.length_cons, List.length_nil, Nat.zero_add, Nat.mul_one]); omega) | decide | (intros; simp_all; done) | (intros; simp_all; omega)) ?_
        refine hK13 _ _ ?_
        clear hK13
        refine AWPD.seq fun K14 hK14 => ?_
        refine AWPD.seq fun K15 hK15 => ?_
        -- region 8
        refine AWPD.keep [0, 1, 6, 16, 17, 18] rfl ?_
        refine AWPD.region tabOK rfl ?_
        refine Exists.intro _ (Exists.intro _ (And.intro (StepD.call (part_fn _) rfl rfl rfl) (And.intro rfl (And.intro trivial ?_))))
        refine hK15 _ _ ?_
        clear hK15
        refine AWPD.seq fun K16 hK16 => ?_
        -- region 9
        refine AWPD.keep [0, 1, 6, 7, 16, 17, 18] rfl ?_
        refine AWPD.region tabOK rfl ?_
        refine hK16 _ _ ?_
        clear hK16
        first | refine AWPD.condP rfl (fun h3 => ?_) (fun h3 => ?_) | refine AWPD.condN rfl (fun h3 => ?_) (fun h3 => ?_) | refine AWPD.condAP rfl (fun h3 => ?_) (fun h3 => ?_) | refine AWPD.condOP rfl (fun h3 => ?_) (fun h3 => ?_) | refine AWPD.condONN rfl (fun h3 => ?_) (fun h3 => ?_) | refine AWPD.condOPN rfl (fun h3 => ?_) (fun h3 => ?_) | refine AWPD.condA rfl (fun h3 => ?_) (fun h3 => ?_) | refine AWPD.condO rfl (fun h3 => ?_) (fun h3 => ?_) | refine AWPD.cond rfl (fun h3 => ?_) (fun h3 => ?_)
        · try dsimp only [Ty.T] at h3
          try simp only [castL_self] at h3
          try simp only [Int.toNat_natCast] at h3
          try simp only [Int.toNat_zero] at h3
          refine AWPD.seq fun K17 hK17 => ?_
          -- region 10
          refine AWPD.keep [7] rfl ?_
          refine AWPD.region tabOK rfl ?_
          refine hK17 _ _ ?_
          clear hK17
          refine AWPD.ret (And.intro (.inl rfl) ?_)
          -- result 2
          refine RetD.one ?_
          have he : rowE all i = partE (all.getD i []) := by unfold rowE; rw [if_pos h3]
          have hf := fE_stop hv0 (by rw [he]; exact h3) (n := all.length) (by omega)
          exact fitE rfl (by show partE (all.getD i []) = _; unfold sevE; rw [if_neg (by omega), if_neg (by omega), hf, he, if_pos h3])
        · try dsimp only [Ty.T] at h3
          try simp only [castL_self] at h3
          try simp only [Int.toNat_natCast] at h3
          try simp only [Int.toNat_zero] at h3
          have hp : partE (all.getD i []) = 0 := by simpa using h3
          refine AWPD.skip ?_
          refine hK14 _ _ ?_
          clear hK14
          refine AWPD.seq fun K18 hK18 => ?_
          -- region 11
          refine AWPD.keep [0, 1, 6, 16, 17, 18] rfl ?_
          refine AWPD.region tabOK rfl ?_
          repeat refine And.intro (by first | exact fun h => h | exact fun _ => rfl | (intro h; rw [h]; rfl) | omega | (intros; (try dsimp only [Ty.T, Ty.size]); (try simp only [castL_self, Int.toNat_natCast, Int.toNat_zero, Int.toNat_one, true_and, List.length_append, List.length_set, List.length_drop, List.length_take, List.length_replicate, List.length_cons, List.length_nil, Nat.zero_add, Nat.mul_one]); omega) | decide | (intros; simp_all; done) | (intros; simp_all; omega)) ?_
          refine hK18 _ _ ?_
          clear hK18
          first | refine AWPD.condP rfl (fun h4 => ?_) (fun h4 => ?_) | refine AWPD.condN rfl (fun h4 => ?_) (fun h4 => ?_) | refine AWPD.condAP rfl (fun h4 => ?_) (fun h4 => ?_) | refine AWPD.condOP rfl (fun h4 => ?_) (fun h4 => ?_) | refine AWPD.condONN rfl (fun h4 => ?_) (fun h4 => ?_) | refine AWPD.condOPN rfl (fun h4 => ?_) (fun h4 => ?_) | refine AWPD.condA rfl (fun h4 => ?_) (fun h4 => ?_) | refine AWPD.condO rfl (fun h4 => ?_) (fun h4 => ?_) | refine AWPD.cond rfl (fun h4 => ?_) (fun h4 => ?_)
          · try dsimp only [Ty.T] at h4
            try simp only [castL_self] at h4
            try simp only [Int.toNat_natCast] at h4
            try simp only [Int.toNat_zero] at h4
            refine AWPD.seq fun K19 hK19 => ?_
            -- region 12
            refine AWPD.keep [] rfl ?_
            refine AWPD.region tabOK rfl ?_
            repeat refine And.intro (by first | exact fun h => h | exact fun _ => rfl | (intro h; rw [h]; rfl) | omega | (intros; (try dsimp only [Ty.T, Ty.size]); (try simp only [castL_self, Int.toNat_natCast, Int.toNat_zero, Int.toNat_one, true_and, List.length_append, List.length_set, List.length_drop, List.length_take, List.length_replicate, List.length_cons, List.length_nil, Nat.zero_add, Nat.mul_one]); omega) | decide | (intros; simp_all; done) | (intros; simp_all; omega)) ?_
            refine hK19 _ _ ?_
            clear hK19
            refine AWPD.ret (And.intro (.inl rfl) ?_)
            -- result 3
            refine RetD.one ?_
            have he : rowE all i = 3 := by unfold rowE; rw [if_neg h3, if_pos (by omega)]
            have hf := fE_stop hv0 (by rw [he]; decide) (n := all.length) (by omega)
            exact fitE rfl (by unfold sevE; rw [if_neg (by omega), if_neg (by omega), hf, he]; rfl)
          · try dsimp only [Ty.T] at h4
            try simp only [castL_self] at h4
            try simp only [Int.toNat_natCast] at h4
            try simp only [Int.toNat_zero] at h4
            have hle : (all.getD i []).length = (all.getD 0 []).length := by omega
            refine AWPD.skip ?_
            refine hK12 _ _ ?_
            clear hK12
            -- region 13
            refine AWPD.keep [0, 1, 16, 17, 18] rfl ?_
            refine AWPD.region tabOK rfl ?_
            repeat refine And.intro (by first | exact fun h => h | exact fun _ => rfl | (intro h; rw [h]; rfl) | omega | (intros; (try dsimp only [Ty.T, Ty.size]); (try simp only [castL_self, Int.toNat_natCast, Int.toNat_zero, Int.toNat_one, true_and, List.length_append, List.length_set, List.length_drop, List.length_take, List.length_replicate, List.length_cons, List.length_nil, Nat.zero_add, Nat.mul_one]); omega) | decide | (intros; simp_all; done) | (intros; simp_all; omega)) ?_
            refine ⟨n0 - 1, i + 1, [], by omega, ⟨by omega, fun j hj => by
                  rcases Nat.lt_or_ge j i with h | h
                  · exact hv0 j h
                  · rw [show j = i by omega]; unfold rowE; rw [if_neg (by omega), if_neg (by omega)]⟩, ⟨by decide, rfl⟩, trivial, ?_⟩
            repeat' first | exact True.intro | exact rfl | exact ⟨rfl, rfl⟩ | refine And.intro ?_ ?_
      · try dsimp only [Ty.T] at h2
        try simp only [castL_self] at h2
        try simp only [Int.toNat_natCast] at h2
        try simp only [Int.toNat_zero] at h2
        refine AWPD.exit ?_
        refine hK8 _ _ ?_
        clear hK8
        refine AWPD.seq fun K20 hK20 => ?_
        refine AWPD.seq fun K21 hK21 => ?_
        -- region 14
        have hl0 : (all.getD 0 []).length ≤ 12 := (partE_good (rowE_zero (hv0 0 (by omega))).1).1
        refine AWPD.keep [0, 1] rfl ?_
        refine AWPD.region tabOK rfl ?_
        repeat refine And.intro (by first | exact fun h => h | exact fun _ => rfl | (intro h; rw [h]; rfl) | omega | (intros; (try dsimp only [Ty.T, Ty.size]); (try simp only [castL_self, Int.toNat_natCast, Int.toNat_zero, Int.toNat_one, true_and, List.length_append, List.length_set, List.length_drop, List.length_take, List.length_replicate, List.length_cons, List.length_nil, Nat.zero_add, Nat.mul_one]); omega) | decide | (intros; simp_all; done) | (intros; simp_all; omega)) ?_
        refine Exists.intro _ (Exists.intro _ (And.intro (StepD.call (mask_fn _ ((all.getD 0 []).length : Int) (by omega)) rfl rfl rfl) (And.intro rfl (And.intro trivial ?_))))
        refine hK21 _ _ ?_
        clear hK21
        first | refine AWPD.cond rfl (fun h5 => ?_) (fun h5 => ?_)
        · try dsimp only [Ty.T] at h5
          try simp only [castL_self] at h5
          try simp only [Int.toNat_natCast] at h5
          try simp only [Int.toNat_zero] at h5
          have hm : ¬maskB e ((all.getD 0 []).length : Int) = true := by simpa using h5
          refine AWPD.seq fun K22 hK22 => ?_
          -- region 15
          refine AWPD.keep [] rfl ?_
          refine AWPD.region tabOK rfl ?_
          repeat refine And.intro (by first | exact fun h => h | exact fun _ => rfl | (intro h; rw [h]; rfl) | omega | (intros; (try dsimp only [Ty.T, Ty.size]); (try simp only [castL_self, Int.toNat_natCast, Int.toNat_zero, Int.toNat_one, true_and, List.length_append, List.length_set, List.length_drop, List.length_take, List.length_replicate, List.length_cons, List.length_nil, Nat.zero_add, Nat.mul_one]); omega) | decide | (intros; simp_all; done) | (intros; simp_all; omega)) ?_
          refine hK22 _ _ ?_
          clear hK22
          refine AWPD.ret (And.intro (.inl rfl) ?_)
          -- result 4
          refine RetD.one ?_
          have hf := fE_zero (f := rowE all) (n := all.length) fun j hj => hv0 j (by omega)
          exact fitE rfl (by unfold sevE; rw [if_neg (by omega), if_neg (by omega), hf, if_neg (by simp), if_neg hm])
        · try dsimp only [Ty.T] at h5
          try simp only [castL_self] at h5
          try simp only [Int.toNat_natCast] at h5
          try simp only [Int.toNat_zero] at h5
          have hm : maskB e ((all.getD 0 []).length : Int) = true := by simpa using h5
          refine AWPD.skip ?_
          refine hK20 _ _ ?_
          clear hK20
          refine AWPD.seq fun K23 hK23 => ?_
          -- region 16
          refine AWPD.keep [] rfl ?_
          refine AWPD.region tabOK rfl ?_
          refine hK23 _ _ ?_
          clear hK23
          refine AWPD.ret (And.intro (.inl rfl) ?_)
          -- result 5
          refine RetD.one ?_
          have hf := fE_zero (f := rowE all) (n := all.length) fun j hj => hv0 j (by omega)
          exact fitE rfl (by unfold sevE; rw [if_neg (by omega), if_neg (by omega), hf, if_neg (by simp), if_pos hm])

def eachR (all : Rows) (e : Nat) : Nat → Nat
  | 0 => e
  | k + 1 => eachR all e k &&& knowN (all.getD k []) e
def comR (all : Rows) : Nat → List Int
  | 0 => all.getD 0 []
  | k + 1 => joinL (comR all k) ((all.drop 1).getD k [])
def metR (all : Rows) : Nat → List Int
  | 0 => all.getD 0 []
  | k + 1 => meetL (metR all k) ((all.drop 1).getD k [])
def eachV (all : Rows) (e : Int) : Int := if sevE all e = 0 then ((eachR all e.toNat all.length : Nat) : Int) else 0
def comV (all : Rows) (e : Int) : Int := if sevE all e = 0 then ((knowN (comR all (all.length - 1)) e.toNat : Nat) : Int) else 0
def togV (all : Rows) (e : Int) : Int := if sevE all e = 0 then ((knowN (metR all (all.length - 1)) e.toNat : Nat) : Int) else 0
theorem eachR_le (all : Rows) (e : Nat) : ∀ k, eachR all e k ≤ e
  | 0 => Nat.le_refl _
  | k + 1 => Nat.le_trans Nat.and_le_left (eachR_le all e k)
theorem sev_mask {all : Rows} {e : Int} (h : Sev all e) : 0 ≤ e ∧ e ≤ 4095 ∧ e.toNat < 2 ^ (all.getD 0 []).length := mask_in (h.good 0 h.some) h.mask
theorem each_step {all : Rows} {e : Int} (h : Sev all e) {k : Nat} (hk : k < all.length) : bitsI .and ((eachR all e.toNat k : Nat) : Int) ((knowN (all.getD k []) e.toNat : Nat) : Int) = ((eachR all e.toNat (k + 1) : Nat) : Int) := by
  have h1 := eachR_le all e.toNat k
  have h2 := sev_mask h
  have h3 := knowN_small (h.good k hk) e.toNat
  rw [bits_and (by omega) (by omega), Int.toNat_natCast, Int.toNat_natCast, eachR]
theorem drop1 {all : Rows} {k : Nat} : (all.drop 1).getD k [] = all.getD (k + 1) [] := by simp [List.getD, Nat.add_comm]
theorem com_parts {all : Rows} {e : Int} (h : Sev all e) : ∀ k, k < all.length → Parts (comR all k) (all.getD 0 []).length fun i j => ∀ c : Nat → Nat, (∀ a, a ≤ k → ∀ x y, x < (all.getD 0 []).length → y < (all.getD 0 []).length → (all.getD a []).getD x 0 = (all.getD a []).getD y 0 → c x = c y) → c i = c j
  | 0, hk => ⟨h.good 0 hk, rfl, fun i j hi hj => ⟨fun he c hc => hc 0 (Nat.le_refl _) i j hi hj he, fun hc => by
      have := hc (fun x => ((all.getD 0 []).getD x 0).toNat) fun a ha x y hx hy hxy => by
        rw [show a = 0 by omega] at hxy
        show ((all.getD 0 []).getD x 0).toNat = ((all.getD 0 []).getD y 0).toNat
        rw [hxy]
      have a := class_lt (h.good 0 hk) hi
      have b := class_lt (h.good 0 hk) hj
      have this : ((all.getD 0 []).getD i 0).toNat = ((all.getD 0 []).getD j 0).toNat := this
      show (all.getD 0 []).getD i 0 = (all.getD 0 []).getD j 0
      omega⟩⟩
  | k + 1, hk => by
    have ih := com_parts h k (by omega)
    have h2 := twoE_zero ih.ok (h.good (k + 1) hk) (by rw [ih.len, h.len (k + 1) hk])
    have J := join_parts h2
    rw [ih.len] at J
    rw [comR, drop1]
    refine ⟨J.ok, J.len, fun i j hi hj => ?_⟩
    rw [J.eqv i j hi hj]
    unfold conn respC
    rw [ih.len]
    constructor
    · intro hc c hcc
      refine hc c fun a b ha hb hr => ?_
      rcases hr with hr | hr
      · exact (ih.eqv a b ha hb).1 hr c fun a' ha' => hcc a' (by omega)
      · exact hcc (k + 1) (Nat.le_refl _) a b ha hb hr
    · intro hc c hcc
      refine hc c fun a ha x y hx hy hxy => ?_
      by_cases hak : a = k + 1
      · subst hak; exact hcc x y hx hy (.inr hxy)
      · exact hcc x y hx hy (.inl ((ih.eqv x y hx hy).2 fun c' hc' => hc' a (by omega) x y hx hy hxy))
theorem met_parts {all : Rows} {e : Int} (h : Sev all e) : ∀ k, k < all.length → Parts (metR all k) (all.getD 0 []).length fun i j => ∀ a, a ≤ k → (all.getD a []).getD i 0 = (all.getD a []).getD j 0
  | 0, hk => ⟨h.good 0 hk, rfl, fun i j hi hj => ⟨fun he a ha => by rw [show a = 0 by omega]; exact he, fun hc => hc 0 (Nat.le_refl _)⟩⟩
  | k + 1, hk => by
    have ih := met_parts h k (by omega)
    have h2 := twoE_zero ih.ok (h.good (k + 1) hk) (by rw [ih.len, h.len (k + 1) hk])
    have M := meet_parts h2
    rw [ih.len] at M
    rw [metR, drop1]
    refine ⟨M.ok, M.len, fun i j hi hj => ?_⟩
    rw [M.eqv i j hi hj, ih.eqv i j hi hj]
    constructor
    · rintro ⟨h1, h2⟩ a ha
      by_cases hak : a = k + 1
      · rw [hak]; exact h2
      · exact h1 a (by omega)
    · exact fun h1 => ⟨fun a ha => h1 a (by omega), h1 (k + 1) (Nat.le_refl _)⟩

theorem each_fn (all : Rows) (e : Int) : LiftsD Tryd.prog 37 [.sl (.sl .int) all, .i e] (.tup [.i (eachV all e), .er 66 (sevE all e)]) := by
  refine LiftsD.of_body 30 [.tmp 4, .tmp 5] Tryd.func37 rfl Tryd.ntmps37 (by kernel_rfl) rfl rfl fun w0 X0 => ?_
  refine AWPD.seq fun K1 hK1 => ?_
  -- region 0
  refine AWPD.keep [0, 1] rfl ?_
  refine AWPD.region tabOK rfl ?_
  refine hK1 _ _ ?_
  clear hK1
  refine AWPD.seq fun K2 hK2 => ?_
  refine AWPD.seq fun K3 hK3 => ?_
  -- region 1
  refine AWPD.keep [0, 1] rfl ?_
  refine AWPD.region tabOK rfl ?_
  refine Exists.intro _ (Exists.intro _ (And.intro (StepD.call (sev_fn _ _) rfl rfl rfl) (And.intro rfl (And.intro trivial ?_))))
  refine hK3 _ _ ?_
  clear hK3
  refine AWPD.seq fun K4 hK4 => ?_
  -- region 2
  refine AWPD.keep [0, 1, 6] rfl ?_
  refine AWPD.region tabOK rfl ?_
  refine hK4 _ _ ?_
  clear hK4
  first | refine AWPD.condP rfl (fun h0 => ?_) (fun h0 => ?_) | refine AWPD.condN rfl (fun h0 => ?_) (fun h0 => ?_) | refine AWPD.condAP rfl (fun h0 => ?_) (fun h0 => ?_) | refine AWPD.condOP rfl (fun h0 => ?_) (fun h0 => ?_) | refine AWPD.condONN rfl (fun h0 => ?_) (fun h0 => ?_) | refine AWPD.condOPN rfl (fun h0 => ?_) (fun h0 => ?_) | refine AWPD.condA rfl (fun h0 => ?_) (fun h0 => ?_) | refine AWPD.condO rfl (fun h0 => ?_) (fun h0 => ?_) | refine AWPD.cond rfl (fun h0 => ?_) (fun h0 => ?_)
  · try dsimp only [Ty.T] at h0
    try simp only [castL_self] at h0
    try simp only [Int.toNat_natCast] at h0
    try simp only [Int.toNat_zero] at h0
    refine AWPD.seq fun K5 hK5 => ?_
    -- region 3
    refine AWPD.keep [6] rfl ?_
    refine AWPD.region tabOK rfl ?_
    refine hK5 _ _ ?_
    clear hK5
    refine AWPD.ret (And.intro (.inl rfl) ?_)
    -- result 0
    exact ⟨fitI rfl (by unfold eachV; rw [if_neg h0]), fitE rfl rfl⟩
  · try dsimp only [Ty.T] at h0
    try simp only [castL_self] at h0
    try simp only [Int.toNat_natCast] at h0
    try simp only [Int.toNat_zero] at h0
    have he : sevE all e = 0 := by simpa using h0
    have sv := sev_of he
    have hfew := sv.few
    have hmi := sev_mask sv
    refine AWPD.skip ?_
    refine hK2 _ _ ?_
    clear hK2
    refine AWPD.seq fun K6 hK6 => ?_
    -- region 4
    refine AWPD.keep [0, 1] rfl ?_
    refine AWPD.region tabOK rfl ?_
    refine hK6 _ _ ?_
    clear hK6
    refine AWPD.seq fun K7 hK7 => ?_
    refine AWPD.seq fun K8 hK8 => ?_
    -- region 5
    refine AWPD.keep [0, 1, 7] rfl ?_
    refine AWPD.region tabOK rfl ?_
    refine hK8 _ _ ?_
    clear hK8
    refine AWPD.block ?_
    -- LOOP 0 live [1, 7, 17, 18, 19] changed [7, 19]
    refine AWPD.loopK (σ := Nat) [1, 17, 18] (fun i base => (7, .i ((eachR all e.toNat i : Nat) : Int)) :: (19, .i (i : Int)) :: base) (fun _ => []) (fun n i => n + i = all.length) (all.length) 0 [] rfl rfl (by omega) (by decide) trivial (by repeat' first | (show e = ((eachR all e.toNat 0 : Nat) : Int); rw [eachR]; omega) | exact True.intro | exact rfl | exact ⟨rfl, rfl⟩ | refine And.intro ?_ ?_) fun n0 i hI0 => ?_
    have hn0 := hI0
    refine AWPD.seq fun K9 hK9 => ?_
    -- region 6
    refine AWPD.keep [1, 7, 17, 18, 19] rfl ?_
    refine AWPD.region tabOK rfl ?_
    refine hK9 _ _ ?_
    clear hK9
    refine AWPD.seq fun K10 hK10 => ?_
    first | refine AWPD.condP rfl (fun h1 => ?_) (fun h1 => ?_) | refine AWPD.condN rfl (fun h1 => ?_) (fun h1 => ?_) | refine AWPD.condAP rfl (fun h1 => ?_) (fun h1 => ?_) | refine AWPD.condOP rfl (fun h1 => ?_) (fun h1 => ?_) | refine AWPD.condONN rfl (fun h1 => ?_) (fun h1 => ?_) | refine AWPD.condOPN rfl (fun h1 => ?_) (fun h1 => ?_) | refine AWPD.condA rfl (fun h1 => ?_) (fun h1 => ?_) | refine AWPD.condO rfl (fun h1 => ?_) (fun h1 => ?_) | refine AWPD.cond rfl (fun h1 => ?_) (fun h1 => ?_)
    · try dsimp only [Ty.T] at h1
      try simp only [castL_self] at h1
      try simp only [Int.toNat_natCast] at h1
      try simp only [Int.toNat_zero] at h1
      refine AWPD.skip ?_
      refine hK10 _ _ ?_
      clear hK10
      refine AWPD.seq fun K11 hK11 => ?_
      refine AWPD.block ?_
      refine AWPD.seq fun K12 hK12 => ?_
      -- region 7
      refine AWPD.keep [1, 7, 17, 18, 19] rfl ?_
      refine AWPD.region tabOK rfl ?_
      repeat refine And.intro (by first | exact fun h => h | exact fun _ => rfl | (intro h; rw [h]; rfl) | omega | (intros; (try dsimp only [Ty.T, Ty.size]); (try simp only [castL_self, Int.toNat_natCast, Int.toNat_zero, Int.toNat_one, true_and, List.length_append, List.length_set, List.length_drop, List.length_take, List.length_replicate, List.length_cons, List.length_nil, Nat.zero_add, Nat.mul_one]); omega) | decide | (intros; simp_all; done) | (intros; simp_all; omega)) ?_
      refine hK12 _ _ ?_
      clear hK12
      -- region 8
      refine AWPD.keep [1, 7, 9, 17, 18, 19] rfl ?_
      refine AWPD.region tabOK rfl ?_
      refine Exists.intro _ (Exists.intro _ (And.intro (StepD.call (inside_fn _ _ (sv.good i (by omega)) (by omega)) rfl rfl rfl) (And.intro rfl (And.intro trivial ?_))))
      refine hK11 _ _ ?_
      clear hK11
      -- region 9
      refine AWPD.keep [1, 7, 17, 18, 19] rfl ?_
      refine AWPD.region tabOK rfl ?_
      repeat refine And.intro (by first | exact fun h => h | exact fun _ => rfl | (intro h; rw [h]; rfl) | omega | (intros; (try dsimp only [Ty.T, Ty.size]); (try simp only [castL_self, Int.toNat_natCast, Int.toNat_zero, Int.toNat_one, true_and, List.length_append, List.length_set, List.length_drop, List.length_take, List.length_replicate, List.length_cons, List.length_nil, Nat.zero_add, Nat.mul_one]); omega) | decide | (intros; simp_all; done) | (intros; simp_all; omega)) ?_
      refine ⟨n0 - 1, i + 1, [], by omega, by omega, ⟨by decide, rfl⟩, trivial, ?_⟩
      repeat' first | exact each_step sv (by omega) | exact True.intro | exact rfl | exact ⟨rfl, rfl⟩ | refine And.intro ?_ ?_
    · try dsimp only [Ty.T] at h1
      try simp only [castL_self] at h1
      try simp only [Int.toNat_natCast] at h1
      try simp only [Int.toNat_zero] at h1
      refine AWPD.exit ?_
      refine hK7 _ _ ?_
      clear hK7
      refine AWPD.seq fun K13 hK13 => ?_
      -- region 10
      refine AWPD.keep [7] rfl ?_
      refine AWPD.region tabOK rfl ?_
      refine hK13 _ _ ?_
      clear hK13
      refine AWPD.ret (And.intro (.inl rfl) ?_)
      -- result 1
      exact ⟨fitI rfl (by unfold eachV; rw [if_pos he, show i = all.length by omega]), fitE rfl he.symm⟩
theorem common_fn (all : Rows) (e : Int) : LiftsD Tryd.prog 16 [.sl (.sl .int) all, .i e] (.tup [.i (comV all e), .er 66 (sevE all e)]) := by
  refine LiftsD.of_body 36 [.tmp 4, .tmp 5] Tryd.func16 rfl Tryd.ntmps16 (by kernel_rfl) rfl rfl fun w0 X0 => ?_
  refine AWPD.seq fun K1 hK1 => ?_
  -- region 0
  refine AWPD.keep [0, 1] rfl ?_
  refine AWPD.region tabOK rfl ?_
  refine hK1 _ _ ?_
  clear hK1
  refine AWPD.seq fun K2 hK2 => ?_
  refine AWPD.seq fun K3 hK3 => ?_
  -- region 1
  refine AWPD.keep [0, 1] rfl ?_
  refine AWPD.region tabOK rfl ?_
  refine Exists.intro _ (Exists.intro _ (And.intro (StepD.call (sev_fn _ _) rfl rfl rfl) (And.intro rfl (And.intro trivial ?_))))
  refine hK3 _ _ ?_
  clear hK3
  refine AWPD.seq fun K4 hK4 => ?_
  -- region 2
  refine AWPD.keep [0, 1, 6] rfl ?_
  refine AWPD.region tabOK rfl ?_
  refine hK4 _ _ ?_
  clear hK4
  first | refine AWPD.condP rfl (fun h0 => ?_) (fun h0 => ?_) | refine AWPD.condN rfl (fun h0 => ?_) (fun h0 => ?_) | refine AWPD.condAP rfl (fun h0 => ?_) (fun h0 => ?_) | refine AWPD.condOP rfl (fun h0 => ?_) (fun h0 => ?_) | refine AWPD.condONN rfl (fun h0 => ?_) (fun h0 => ?_) | refine AWPD.condOPN rfl (fun h0 => ?_) (fun h0 => ?_) | refine AWPD.condA rfl (fun h0 => ?_) (fun h0 => ?_) | refine AWPD.condO rfl (fun h0 => ?_) (fun h0 => ?_) | refine AWPD.cond rfl (fun h0 => ?_) (fun h0 => ?_)
  · try dsimp only [Ty.T] at h0
    try simp only [castL_self] at h0
    try simp only [Int.toNat_natCast] at h0
    try simp only [Int.toNat_zero] at h0
    refine AWPD.seq fun K5 hK5 => ?_
    -- region 3
    refine AWPD.keep [6] rfl ?_
    refine AWPD.region tabOK rfl ?_
    refine hK5 _ _ ?_
    clear hK5
    refine AWPD.ret (And.intro (.inl rfl) ?_)
    -- result 0
    exact ⟨fitI rfl (by unfold comV; rw [if_neg h0]), fitE rfl rfl⟩
  · try dsimp only [Ty.T] at h0
    try simp only [castL_self] at h0
    try simp only [Int.toNat_natCast] at h0
    try simp only [Int.toNat_zero] at h0
    have he : sevE all e = 0 := by simpa using h0
    have sv := sev_of he
    have hfew := sv.few
    have hsome := sv.some
    have hmi := sev_mask sv
    have hdl : (all.drop 1).length = all.length - 1 := by simp
    have hdl2 : (List.drop (1 : Int).toNat all).length = all.length - 1 := hdl
    refine AWPD.skip ?_
    refine hK2 _ _ ?_
    clear hK2
    refine AWPD.seq fun K6 hK6 => ?_
    -- region 4
    refine AWPD.keep [0, 1] rfl ?_
    refine AWPD.region tabOK rfl ?_
    repeat refine And.intro (by first | exact fun h => h | exact fun _ => rfl | (intro h; rw [h]; rfl) | omega | (intros; (try dsimp only [Ty.T, Ty.size]); (try simp only [castL_self, Int.toNat_natCast, Int.toNat_zero, Int.toNat_one, true_and, List.length_append, List.length_set, List.length_drop, List.length_take, List.length_replicate, List.length_cons, List.length_nil, Nat.zero_add, Nat.mul_one]); omega) | decide | (intros; simp_all; done) | (intros; simp_all; omega)) ?_
    refine hK6 _ _ ?_
    clear hK6
    refine AWPD.seq fun K7 hK7 => ?_
    refine AWPD.seq fun K8 hK8 => ?_
    -- region 5
    refine AWPD.keep [0, 1, 7] rfl ?_
    refine AWPD.region tabOK rfl ?_
    repeat refine And.intro (by first | exact fun h => h | exact fun _ => rfl | (intro h; rw [h]; rfl) | omega | (intros; (try dsimp only [Ty.T, Ty.size]); (try simp only [castL_self, Int.toNat_natCast, Int.toNat_zero, Int.toNat_one, true_and, List.length_append, List.length_set, List.length_drop, List.length_take, List.length_replicate, List.length_cons, List.length_nil, Nat.zero_add, Nat.mul_one]); omega) | decide | (intros; simp_all; done) | (intros; simp_all; omega)) ?_
    refine hK8 _ _ ?_
    clear hK8
    refine AWPD.block ?_
    -- LOOP 0 live [1, 7, 20, 21, 22] changed [7, 22]
    refine AWPD.loopK (σ := Nat) [1, 20, 21] (fun i base => (7, .sl .int (comR all i)) :: (22, .i (i : Int)) :: base) (fun _ => []) (fun n i => n + i = (all.drop 1).length) ((all.drop 1).length) 0 [] rfl rfl (by omega) (by decide) trivial (by repeat' first | exact True.intro | exact rfl | exact ⟨rfl, rfl⟩ | refine And.intro ?_ ?_) fun n0 i hI0 => ?_
    have hn0 := hI0
    refine AWPD.seq fun K9 hK9 => ?_
    -- region 6
    refine AWPD.keep [1, 7, 20, 21, 22] rfl ?_
    refine AWPD.region tabOK rfl ?_
    refine hK9 _ _ ?_
    clear hK9
    refine AWPD.seq fun K10 hK10 => ?_
    first | refine AWPD.condP rfl (fun h1 => ?_) (fun h1 => ?_) | refine AWPD.condN rfl (fun h1 => ?_) (fun h1 => ?_) | refine AWPD.condAP rfl (fun h1 => ?_) (fun h1 => ?_) | refine AWPD.condOP rfl (fun h1 => ?_) (fun h1 => ?_) | refine AWPD.condONN rfl (fun h1 => ?_) (fun h1 => ?_) | refine AWPD.condOPN rfl (fun h1 => ?_) (fun h1 => ?_) | refine AWPD.condA rfl (fun h1 => ?_) (fun h1 => ?_) | refine AWPD.condO rfl (fun h1 => ?_) (fun h1 => ?_) | refine AWPD.cond rfl (fun h1 => ?_) (fun h1 => ?_)
    · try dsimp only [Ty.T] at h1
      try simp only [castL_self] at h1
      try simp only [Int.toNat_natCast] at h1
      try simp only [Int.toNat_zero] at h1
      refine AWPD.skip ?_
      refine hK10 _ _ ?_
      clear hK10
      refine AWPD.seq fun K11 hK11 => ?_
      refine AWPD.block ?_
      refine AWPD.seq fun K12 hK12 => ?_
      -- region 7
      refine AWPD.keep [1, 7, 20, 21, 22] rfl ?_
      refine AWPD.region tabOK rfl ?_
      repeat refine And.intro (by first | exact fun h => h | exact fun _ => rfl | (intro h; rw [h]; rfl) | omega | (intros; (try dsimp only [Ty.T, Ty.size]); (try simp only [castL_self, Int.toNat_natCast, Int.toNat_zero, Int.toNat_one, true_and, List.length_append, List.length_set, List.length_drop, List.length_take, List.length_replicate, List.length_cons, List.length_nil, Nat.zero_add, Nat.mul_one]); omega) | decide | (intros; simp_all; done) | (intros; simp_all; omega)) ?_
      refine hK12 _ _ ?_
      clear hK12
      -- region 8
      refine AWPD.keep [1, 7, 9, 20, 21, 22] rfl ?_
      refine AWPD.region tabOK rfl ?_
      refine Exists.intro _ (Exists.intro _ (And.intro (StepD.call (join_fn _ _) rfl rfl rfl) (And.intro rfl (And.intro trivial ?_))))
      refine hK11 _ _ ?_
      clear hK11
      -- region 9
      refine AWPD.keep [1, 7, 20, 21, 22] rfl ?_
      refine AWPD.region tabOK rfl ?_
      repeat refine And.intro (by first | exact fun h => h | exact fun _ => rfl | (intro h; rw [h]; rfl) | omega | (intros; (try dsimp only [Ty.T, Ty.size]); (try simp only [castL_self, Int.toNat_natCast, Int.toNat_zero, Int.toNat_one, true_and, List.length_append, List.length_set, List.length_drop, List.length_take, List.length_replicate, List.length_cons, List.length_nil, Nat.zero_add, Nat.mul_one]); omega) | decide | (intros; simp_all; done) | (intros; simp_all; omega)) ?_
      refine ⟨n0 - 1, i + 1, [], by omega, by omega, ⟨by decide, rfl⟩, trivial, ?_⟩
      repeat' first | exact True.intro | exact rfl | exact ⟨rfl, rfl⟩ | refine And.intro ?_ ?_
    · try dsimp only [Ty.T] at h1
      try simp only [castL_self] at h1
      try simp only [Int.toNat_natCast] at h1
      try simp only [Int.toNat_zero] at h1
      refine AWPD.exit ?_
      refine hK7 _ _ ?_
      clear hK7
      refine AWPD.seq fun K13 hK13 => ?_
      -- region 10
      refine AWPD.keep [1, 7] rfl ?_
      refine AWPD.region tabOK rfl ?_
      refine Exists.intro _ (Exists.intro _ (And.intro (StepD.call (inside_fn _ _ (com_parts sv i (by omega)).ok (by omega)) rfl rfl rfl) (And.intro rfl (And.intro trivial ?_))))
      refine hK13 _ _ ?_
      clear hK13
      refine AWPD.ret (And.intro (.inl rfl) ?_)
      -- result 1
      exact ⟨fitI rfl (by unfold comV; rw [if_pos he, show i = all.length - 1 by omega]), fitE rfl he.symm⟩
theorem together_fn (all : Rows) (e : Int) : LiftsD Tryd.prog 38 [.sl (.sl .int) all, .i e] (.tup [.i (togV all e), .er 66 (sevE all e)]) := by
  refine LiftsD.of_body 36 [.tmp 4, .tmp 5] Tryd.func38 rfl Tryd.ntmps38 (by kernel_rfl) rfl rfl fun w0 X0 => ?_
  refine AWPD.seq fun K1 hK1 => ?_
  -- region 0
  refine AWPD.keep [0, 1] rfl ?_
  refine AWPD.region tabOK rfl ?_
  refine hK1 _ _ ?_
  clear hK1
  refine AWPD.seq fun K2 hK2 => ?_
  refine AWPD.seq fun K3 hK3 => ?_
  -- region 1
  refine AWPD.keep [0, 1] rfl ?_
  refine AWPD.region tabOK rfl ?_
  refine Exists.intro _ (Exists.intro _ (And.intro (StepD.call (sev_fn _ _) rfl rfl rfl) (And.intro rfl (And.intro trivial ?_))))
  refine hK3 _ _ ?_
  clear hK3
  refine AWPD.seq fun K4 hK4 => ?_
  -- region 2
  refine AWPD.keep [0, 1, 6] rfl ?_
  refine AWPD.region tabOK rfl ?_
  refine hK4 _ _ ?_
  clear hK4
  first | refine AWPD.condP rfl (fun h0 => ?_) (fun h0 => ?_) | refine AWPD.condN rfl (fun h0 => ?_) (fun h0 => ?_) | refine AWPD.condAP rfl (fun h0 => ?_) (fun h0 => ?_) | refine AWPD.condOP rfl (fun h0 => ?_) (fun h0 => ?_) | refine AWPD.condONN rfl (fun h0 => ?_) (fun h0 => ?_) | refine AWPD.condOPN rfl (fun h0 => ?_) (fun h0 => ?_) | refine AWPD.condA rfl (fun h0 => ?_) (fun h0 => ?_) | refine AWPD.condO rfl (fun h0 => ?_) (fun h0 => ?_) | refine AWPD.cond rfl (fun h0 => ?_) (fun h0 => ?_)
  · try dsimp only [Ty.T] at h0
    try simp only [castL_self] at h0
    try simp only [Int.toNat_natCast] at h0
    try simp only [Int.toNat_zero] at h0
    refine AWPD.seq fun K5 hK5 => ?_
    -- region 3
    refine AWPD.keep [6] rfl ?_
    refine AWPD.region tabOK rfl ?_
    refine hK5 _ _ ?_
    clear hK5
    refine AWPD.ret (And.intro (.inl rfl) ?_)
    -- result 0
    exact ⟨fitI rfl (by unfold togV; rw [if_neg h0]), fitE rfl rfl⟩
  · try dsimp only [Ty.T] at h0
    try simp only [castL_self] at h0
    try simp only [Int.toNat_natCast] at h0
    try simp only [Int.toNat_zero] at h0
    have he : sevE all e = 0 := by simpa using h0
    have sv := sev_of he
    have hfew := sv.few
    have hsome := sv.some
    have hmi := sev_mask sv
    have hdl : (all.drop 1).length = all.length - 1 := by simp
    have hdl2 : (List.drop (1 : Int).toNat all).length = all.length - 1 := hdl
    refine AWPD.skip ?_
    refine hK2 _ _ ?_
    clear hK2
    refine AWPD.seq fun K6 hK6 => ?_
    -- region 4
    refine AWPD.keep [0, 1] rfl ?_
    refine AWPD.region tabOK rfl ?_
    repeat refine And.intro (by first | exact fun h => h | exact fun _ => rfl | (intro h; rw [h]; rfl) | omega | (intros; (try dsimp only [Ty.T, Ty.size]); (try simp only [castL_self, Int.toNat_natCast, Int.toNat_zero, Int.toNat_one, true_and, List.length_append, List.length_set, List.length_drop, List.length_take, List.length_replicate, List.length_cons, List.length_nil, Nat.zero_add, Nat.mul_one]); omega) | decide | (intros; simp_all; done) | (intros; simp_all; omega)) ?_
    refine hK6 _ _ ?_
    clear hK6
    refine AWPD.seq fun K7 hK7 => ?_
    refine AWPD.seq fun K8 hK8 => ?_
    -- region 5
    refine AWPD.keep [0, 1, 7] rfl ?_
    refine AWPD.region tabOK rfl ?_
    repeat refine And.intro (by first | exact fun h => h | exact fun _ => rfl | (intro h; rw [h]; rfl) | omega | (intros; (try dsimp only [Ty.T, Ty.size]); (try simp only [castL_self, Int.toNat_natCast, Int.toNat_zero, Int.toNat_one, true_and, List.length_append, List.length_set, List.length_drop, List.length_take, List.length_replicate, List.length_cons, List.length_nil, Nat.zero_add, Nat.mul_one]); omega) | decide | (intros; simp_all; done) | (intros; simp_all; omega)) ?_
    refine hK8 _ _ ?_
    clear hK8
    refine AWPD.block ?_
    -- LOOP 0 live [1, 7, 20, 21, 22] changed [7, 22]
    refine AWPD.loopK (σ := Nat) [1, 20, 21] (fun i base => (7, .sl .int (metR all i)) :: (22, .i (i : Int)) :: base) (fun _ => []) (fun n i => n + i = (all.drop 1).length) ((all.drop 1).length) 0 [] rfl rfl (by omega) (by decide) trivial (by repeat' first | exact True.intro | exact rfl | exact ⟨rfl, rfl⟩ | refine And.intro ?_ ?_) fun n0 i hI0 => ?_
    have hn0 := hI0
    refine AWPD.seq fun K9 hK9 => ?_
    -- region 6
    refine AWPD.keep [1, 7, 20, 21, 22] rfl ?_
    refine AWPD.region tabOK rfl ?_
    refine hK9 _ _ ?_
    clear hK9
    refine AWPD.seq fun K10 hK10 => ?_
    first | refine AWPD.condP rfl (fun h1 => ?_) (fun h1 => ?_) | refine AWPD.condN rfl (fun h1 => ?_) (fun h1 => ?_) | refine AWPD.condAP rfl (fun h1 => ?_) (fun h1 => ?_) | refine AWPD.condOP rfl (fun h1 => ?_) (fun h1 => ?_) | refine AWPD.condONN rfl (fun h1 => ?_) (fun h1 => ?_) | refine AWPD.condOPN rfl (fun h1 => ?_) (fun h1 => ?_) | refine AWPD.condA rfl (fun h1 => ?_) (fun h1 => ?_) | refine AWPD.condO rfl (fun h1 => ?_) (fun h1 => ?_) | refine AWPD.cond rfl (fun h1 => ?_) (fun h1 => ?_)
    · try dsimp only [Ty.T] at h1
      try simp only [castL_self] at h1
      try simp only [Int.toNat_natCast] at h1
      try simp only [Int.toNat_zero] at h1
      refine AWPD.skip ?_
      refine hK10 _ _ ?_
      clear hK10
      refine AWPD.seq fun K11 hK11 => ?_
      refine AWPD.block ?_
      refine AWPD.seq fun K12 hK12 => ?_
      -- region 7
      refine AWPD.keep [1, 7, 20, 21, 22] rfl ?_
      refine AWPD.region tabOK rfl ?_
      repeat refine And.intro (by first | exact fun h => h | exact fun _ => rfl | (intro h; rw [h]; rfl) | omega | (intros; (try dsimp only [Ty.T, Ty.size]); (try simp only [castL_self, Int.toNat_natCast, Int.toNat_zero, Int.toNat_one, true_and, List.length_append, List.length_set, List.length_drop, List.length_take, List.length_replicate, List.length_cons, List.length_nil, Nat.zero_add, Nat.mul_one]); omega) | decide | (intros; simp_all; done) | (intros; simp_all; omega)) ?_
      refine hK12 _ _ ?_
      clear hK12
      -- region 8
      refine AWPD.keep [1, 7, 9, 20, 21, 22] rfl ?_
      refine AWPD.region tabOK rfl ?_
      refine Exists.intro _ (Exists.intro _ (And.intro (StepD.call (meet_fn _ _) rfl rfl rfl) (And.intro rfl (And.intro trivial ?_))))
      refine hK11 _ _ ?_
      clear hK11
      -- region 9
      refine AWPD.keep [1, 7, 20, 21, 22] rfl ?_
      refine AWPD.region tabOK rfl ?_
      repeat refine And.intro (by first | exact fun h => h | exact fun _ => rfl | (intro h; rw [h]; rfl) | omega | (intros; (try dsimp only [Ty.T, Ty.size]); (try simp only [castL_self, Int.toNat_natCast, Int.toNat_zero, Int.toNat_one, true_and, List.length_append, List.length_set, List.length_drop, List.length_take, List.length_replicate, List.length_cons, List.length_nil, Nat.zero_add, Nat.mul_one]); omega) | decide | (intros; simp_all; done) | (intros; simp_all; omega)) ?_
      refine ⟨n0 - 1, i + 1, [], by omega, by omega, ⟨by decide, rfl⟩, trivial, ?_⟩
      repeat' first | exact True.intro | exact rfl | exact ⟨rfl, rfl⟩ | refine And.intro ?_ ?_
    · try dsimp only [Ty.T] at h1
      try simp only [castL_self] at h1
      try simp only [Int.toNat_natCast] at h1
      try simp only [Int.toNat_zero] at h1
      refine AWPD.exit ?_
      refine hK7 _ _ ?_
      clear hK7
      refine AWPD.seq fun K13 hK13 => ?_
      -- region 10
      refine AWPD.keep [1, 7] rfl ?_
      refine AWPD.region tabOK rfl ?_
      refine Exists.intro _ (Exists.intro _ (And.intro (StepD.call (inside_fn _ _ (met_parts sv i (by omega)).ok (by omega)) rfl rfl rfl) (And.intro rfl (And.intro trivial ?_))))
      refine hK13 _ _ ?_
      clear hK13
      refine AWPD.ret (And.intro (.inl rfl) ?_)
      -- result 1
      exact ⟨fitI rfl (by unfold togV; rw [if_pos he, show i = all.length - 1 by omega]), fitE rfl he.symm⟩

theorem eachR_bit (all : Rows) (e j : Nat) : ∀ k, (eachR all e k).testBit j = true ↔ e.testBit j = true ∧ ∀ a, a < k → (knowN (all.getD a []) e).testBit j = true
  | 0 => ⟨fun h => ⟨h, fun a ha => by omega⟩, fun h => h.1⟩
  | k + 1 => by
    rw [eachR, Nat.testBit_and, Bool.and_eq_true, eachR_bit all e j k]
    constructor
    · rintro ⟨⟨h1, h2⟩, h3⟩
      exact ⟨h1, fun a ha => by rcases Nat.lt_or_ge a k with h | h; exact h2 a h; rw [show a = k by omega]; exact h3⟩
    · rintro ⟨h1, h2⟩
      exact ⟨⟨h1, fun a ha => h2 a (by omega)⟩, h2 k (by omega)⟩
section
variable {all : Rows} {e : Int} (sv : Sev all e)
include sv
/-- What each knows; what is common; what they know together. -/
theorem each_bit (E j : Nat) : (eachR all E all.length).testBit j = true ↔ E.testBit j = true ∧ j < (all.getD 0 []).length ∧ ∀ a, a < all.length → ∀ i, i < (all.getD 0 []).length → (all.getD a []).getD i 0 = (all.getD a []).getD j 0 → E.testBit i = true := by
  rw [eachR_bit]
  constructor
  · rintro ⟨h1, h2⟩
    refine ⟨h1, ?_, fun a ha i hi he => ?_⟩
    · exact ((knowN_bit (sv.good 0 sv.some)).1 (h2 0 sv.some)).1
    · exact ((knowN_bit (sv.good a ha)).1 (h2 a ha)).2 i (by rw [sv.len a ha]; exact hi) he
  · rintro ⟨h1, h2, h3⟩
    exact ⟨h1, fun a ha => (knowN_bit (sv.good a ha)).2 ⟨by rw [sv.len a ha]; exact h2, fun i hi he => h3 a ha i (by rw [← sv.len a ha]; exact hi) he⟩⟩
def linked (all : Rows) (i j : Nat) : Prop := ∀ c : Nat → Nat, (∀ a, a < all.length → ∀ x y, x < (all.getD 0 []).length → y < (all.getD 0 []).length → (all.getD a []).getD x 0 = (all.getD a []).getD y 0 → c x = c y) → c i = c j
theorem com_bit (E j : Nat) : (knowN (comR all (all.length - 1)) E).testBit j = true ↔ j < (all.getD 0 []).length ∧ ∀ i, i < (all.getD 0 []).length → linked all i j → E.testBit i = true := by
  have C := com_parts sv (all.length - 1) (by have := sv.some; omega)
  rw [knowN_bit C.ok, C.len]
  have hs := sv.some
  refine and_congr_right fun hj => forall_congr' fun i => forall_congr' fun hi => ?_
  rw [C.eqv i j hi hj]
  unfold linked
  constructor
  · exact fun h hl => h fun c hc => hl c fun a ha => hc a (by omega)
  · exact fun h hl => h fun c hc => hl c fun a ha => hc a (by omega)
theorem tog_bit (E j : Nat) : (knowN (metR all (all.length - 1)) E).testBit j = true ↔ j < (all.getD 0 []).length ∧ ∀ i, i < (all.getD 0 []).length → (∀ a, a < all.length → (all.getD a []).getD i 0 = (all.getD a []).getD j 0) → E.testBit i = true := by
  have C := met_parts sv (all.length - 1) (by have := sv.some; omega)
  rw [knowN_bit C.ok, C.len]
  have hs := sv.some
  refine and_congr_right fun hj => forall_congr' fun i => forall_congr' fun hi => ?_
  rw [C.eqv i j hi hj]
  constructor
  · exact fun h hl => h fun a ha => hl a (by omega)
  · exact fun h hl => h fun a ha => hl a (by omega)
theorem com_sub (E : Nat) : subN (knowN (comR all (all.length - 1)) E) E = true := subN_iff.2 fun j hj => let ⟨h1, h2⟩ := (com_bit sv E j).1 hj; h2 j h1 fun _ _ => rfl
theorem tog_sub (E : Nat) : subN (knowN (metR all (all.length - 1)) E) E = true := subN_iff.2 fun j hj => let ⟨h1, h2⟩ := (tog_bit sv E j).1 hj; h2 j h1 fun _ _ => rfl
theorem com_each (E : Nat) : subN (knowN (comR all (all.length - 1)) E) (eachR all E all.length) = true := subN_iff.2 fun j hj => by
  obtain ⟨h1, h2⟩ := (com_bit sv E j).1 hj
  exact (each_bit sv E j).2 ⟨h2 j h1 fun _ _ => rfl, h1, fun a ha i hi he => h2 i hi fun c hc => hc a ha i j hi h1 he⟩
theorem each_tog (E : Nat) : subN (eachR all E all.length) (knowN (metR all (all.length - 1)) E) = true := subN_iff.2 fun j hj => by
  obtain ⟨h1, h2, h3⟩ := (each_bit sv E j).1 hj
  exact (tog_bit sv E j).2 ⟨h2, fun i hi he => h3 0 sv.some i hi (he 0 sv.some)⟩
theorem one_tog (E : Nat) {a : Nat} (ha : a < all.length) : subN (knowN (all.getD a []) E) (knowN (metR all (all.length - 1)) E) = true := subN_iff.2 fun j hj => by
  obtain ⟨h1, h2⟩ := (knowN_bit (sv.good a ha)).1 hj
  rw [sv.len a ha] at h1 h2
  exact (tog_bit sv E j).2 ⟨h1, fun i hi he => h2 i hi (he a ha)⟩
omit sv in
theorem each_one (E : Nat) {a : Nat} (ha : a < all.length) : subN (eachR all E all.length) (knowN (all.getD a []) E) = true := subN_iff.2 fun j hj => ((eachR_bit all E j all.length).1 hj).2 a ha
/-- What is common is known to be. -/
theorem com_fix (E : Nat) : eachR all (knowN (comR all (all.length - 1)) E) all.length = knowN (comR all (all.length - 1)) E := by
  refine Nat.eq_of_testBit_eq fun j => Bool.eq_iff_iff.2 ?_
  rw [each_bit sv]
  constructor
  · exact fun h => h.1
  · intro h
    obtain ⟨h1, h2⟩ := (com_bit sv E j).1 h
    exact ⟨h, h1, fun a ha i hi he => (com_bit sv E i).2 ⟨hi, fun k hk hl => h2 k hk fun c hc => (hl c hc).trans (hc a ha i j hi h1 he)⟩⟩
/-- Whatever each knows, and that is in the event, is common. -/
theorem com_most (E D : Nat) (hD : eachR all D all.length = D) (hs : subN D E = true) : subN D (knowN (comR all (all.length - 1)) E) = true := subN_iff.2 fun j hj => by
  have h0 := hj
  rw [← hD] at h0
  obtain ⟨h1, h2, h3⟩ := (each_bit sv D j).1 h0
  refine (com_bit sv E j).2 ⟨h2, fun i hi hl => subN_iff.1 hs i ?_⟩
  have := hl (fun x => if D.testBit x = true then 1 else 0) fun a ha x y hx hy hxy => by
    have key : ∀ {x y : Nat}, x < (all.getD 0 []).length → (all.getD a []).getD x 0 = (all.getD a []).getD y 0 → D.testBit y = true → D.testBit x = true := fun {x y} hx hxy hy => by
      rw [← hD] at hy
      exact ((each_bit sv D y).1 hy).2.2 a ha x hx hxy
    by_cases hdx : D.testBit x = true
    · rw [if_pos hdx, if_pos (key hy hxy.symm hdx)]
    · rw [if_neg hdx, if_neg fun h => hdx (key hx hxy h)]
  rw [if_pos hj] at this
  by_cases hdi : D.testBit i = true
  · exact hdi
  · rw [if_neg hdi] at this; omega
end
theorem each_mono {all : Rows} {e : Int} (sv : Sev all e) {D E : Nat} (h : subN D E = true) : subN (eachR all D all.length) (eachR all E all.length) = true := subN_iff.2 fun j hj => by
  obtain ⟨h1, h2, h3⟩ := (each_bit sv D j).1 hj
  exact (each_bit sv E j).2 ⟨subN_iff.1 h j h1, h2, fun a ha i hi he => subN_iff.1 h i (h3 a ha i hi he)⟩
theorem each_sub {all : Rows} (E : Nat) : subN (eachR all E all.length) E = true := subN_iff.2 fun j hj => ((eachR_bit all E j all.length).1 hj).1
theorem subN_anti {a b : Nat} (h : subN a b = true) (k : subN b a = true) : a = b := Nat.eq_of_testBit_eq fun j => Bool.eq_iff_iff.2 ⟨subN_iff.1 h j, subN_iff.1 k j⟩
theorem subN_trans {a b c : Nat} (h : subN a b = true) (k : subN b c = true) : subN a c = true := subN_iff.2 fun j hj => subN_iff.1 k j (subN_iff.1 h j hj)
theorem pop_sub : ∀ (b a : Nat), subN a b = true → popN a ≤ popN b ∧ (popN a = popN b → a = b)
  | 0, a, h => by
    have := subN_le h
    have ha : a = 0 := by omega
    subst ha
    exact ⟨Nat.le_refl _, fun _ => rfl⟩
  | b + 1, a, h => by
    have h' := h
    rw [sub_half, Bool.and_eq_true] at h'
    obtain ⟨h1, h2⟩ := h'
    have ih := pop_sub ((b + 1) / 2) (a / 2) h2
    simp only [Bool.not_eq_true', Bool.and_eq_false_iff, beq_eq_false_iff_ne] at h1
    have eb := popN_eq (n := b + 1) (by omega)
    rcases Nat.eq_zero_or_pos a with ha | ha
    · subst ha
      have : popN 0 = 0 := by simp [popN]
      have z : popN (0 / 2) = 0 := by simp [popN]
      refine ⟨by omega, fun he => ?_⟩
      have h3 := ih.2 (by omega)
      omega
    · have ea := popN_eq ha
      refine ⟨by omega, fun he => ?_⟩
      have h3 := ih.2 (by omega)
      omega
theorem pop_lt : ∀ (k a : Nat), a < 2 ^ k → popN a ≤ k
  | 0, a, h => by simp at h; subst h; simp [popN]
  | k + 1, a, h => by
    rcases Nat.eq_zero_or_pos a with ha | ha
    · subst ha; simp [popN]
    · have := pop_lt k (a / 2) (by rw [Nat.pow_succ] at h; omega)
      rw [popN_eq ha]
      omega
/-- Asked again and again. -/
def iterE (all : Rows) (e : Nat) : Nat → Nat
  | 0 => e
  | k + 1 => eachR all (iterE all e k) all.length
theorem iter_sub {all : Rows} (e : Nat) : ∀ k, subN (iterE all e k) e = true
  | 0 => subN_iff.2 fun _ h => h
  | k + 1 => subN_trans (each_sub _) (iter_sub e k)
theorem iter_end {all : Rows} {e : Int} (sv : Sev all e) : iterE all e.toNat 13 = knowN (comR all (all.length - 1)) e.toNat := by
  have hm := sev_mask sv
  have h12 := (partE_good (sv.good 0 sv.some)).1
  have hp : popN e.toNat ≤ 12 := Nat.le_trans (pop_lt _ _ hm.2.2) h12
  have drop : ∀ k, (iterE all e.toNat (k + 1) = iterE all e.toNat k) ∨ popN (iterE all e.toNat (k + 1)) + 1 ≤ popN (iterE all e.toNat k) := fun k => by
    have := pop_sub (iterE all e.toNat k) (iterE all e.toNat (k + 1)) (each_sub _)
    rcases Nat.lt_or_ge (popN (iterE all e.toNat (k + 1))) (popN (iterE all e.toNat k)) with h | h
    · exact .inr h
    · exact .inl (this.2 (by omega))
  have stay : ∀ k, iterE all e.toNat (k + 1) = iterE all e.toNat k → iterE all e.toNat (k + 2) = iterE all e.toNat (k + 1) := fun k h => by
    show eachR all (iterE all e.toNat (k + 1)) all.length = _
    rw [h]
    exact h
  have fall : ∀ k, (iterE all e.toNat (k + 1) = iterE all e.toNat k) ∨ popN (iterE all e.toNat (k + 1)) + (k + 1) ≤ popN e.toNat := by
    intro k
    induction k with
    | zero => rcases drop 0 with h | h; exact .inl h; exact .inr (by simpa [iterE] using h)
    | succ k ih =>
      rcases ih with h | h
      · exact .inl (stay k h)
      · rcases drop (k + 1) with h2 | h2
        · exact .inl h2
        · exact .inr (by omega)
  have fix : iterE all e.toNat 14 = iterE all e.toNat 13 := by
    rcases fall 12 with h | h
    · exact stay 12 h
    · omega
  refine subN_anti (com_most sv _ _ fix (iter_sub _ 13)) ?_
  have up : ∀ k, subN (knowN (comR all (all.length - 1)) e.toNat) (iterE all e.toNat k) = true := by
    intro k
    induction k with
    | zero => exact com_sub sv _
    | succ k ih =>
      have := each_mono sv ih
      rw [com_fix sv] at this
      exact this
  exact up 13
theorem Sev.other {all : Rows} {e f : Int} (sv : Sev all e) (h : maskB f ((all.getD 0 []).length : Int) = true) : Sev all f := ⟨sv.some, sv.few, sv.good, sv.len, h⟩
theorem eachV_ok {all : Rows} {e : Int} (sv : Sev all e) : eachV all e = ((eachR all e.toNat all.length : Nat) : Int) := by unfold eachV; rw [if_pos (sev_zero sv)]
theorem comV_ok {all : Rows} {e : Int} (sv : Sev all e) : comV all e = ((knowN (comR all (all.length - 1)) e.toNat : Nat) : Int) := by unfold comV; rw [if_pos (sev_zero sv)]
theorem togV_ok {all : Rows} {e : Int} (sv : Sev all e) : togV all e = ((knowN (metR all (all.length - 1)) e.toNat : Nat) : Int) := by unfold togV; rw [if_pos (sev_zero sv)]
theorem sub_mask {all : Rows} {e : Int} (sv : Sev all e) {d : Nat} (h : subN d e.toNat = true) : Sev all (d : Int) := sv.other (by
  have h1 := sev_mask sv
  have h2 := subN_le h
  exact mask_of (p := all.getD 0 []) (by omega))

end Go.Proofs.YtkdihpajgmiolaaDoor
