/-
  WALKS of what two partitions have together, and the laws of it. Laid by a program of mine out of the operations, with the loops and results told by hand.
-/
import Derived.Test.YtkdihpajgmiolaaDoorQwKn
import Derived.Test.YtkdihpajgmiolaaDoorQwGr
import Derived.Test.YtkdihpajgmiolaaDoorQwNm
namespace Go.Proofs.YtkdihpajgmiolaaDoor
open Go Go.Qw
set_option maxRecDepth 10000
set_option linter.unusedSimpArgs false
set_option linter.unusedVariables false
set_option linter.unusedSectionVars false

theorem num_next {τ : Ty} (l : List τ.T) (n : Nat) : ∀ i, i ≤ n → nextP (numQ τ l n) i = ((qAt τ l i).length : Int)
  | 0, _ => by simp [nextP, qAt]
  | i + 1, h => by
    have ih := num_next l n i (by omega)
    have s := (qstep τ (List.getD l i (dT τ)) (qAt τ l i)).len
    rw [nextP, ih, numQ_get τ l (by omega), qAt, s]
theorem num_good {τ : Ty} (l : List τ.T) {n : Nat} (hn : n ≤ 12) : partE (numQ τ l n) = 0 := by
  refine partE_ok (by rw [numQ_len]; exact hn) fun j hj => ?_
  rw [numQ_len] at hj
  have s := (qstep τ (List.getD l j (dT τ)) (qAt τ l j)).nn
  rw [num_next l n j (by omega), numQ_get τ l hj]
  exact s
theorem seen_before {p : List Int} {n : Nat} (hp : okP p n) : ∀ i, i ≤ n → ∀ c : Int, 0 ≤ c → c < nextP p i → ∃ j, j < i ∧ p.getD j 0 = c
  | 0, _, c, h1, h2 => by simp [nextP] at h2; omega
  | i + 1, h, c, h1, h2 => by
    by_cases hc : c < nextP p i
    · obtain ⟨j, hj, e⟩ := seen_before hp i (by omega) c h1 hc
      exact ⟨j, by omega, e⟩
    · refine ⟨i, by omega, ?_⟩
      rw [nextP] at h2
      split at h2 <;> omega
/-- TWO PARTITIONS THAT TELL THE SAME APART ARE THE SAME. -/
theorem part_same {p q : List Int} (hp : partE p = 0) (hq : partE q = 0) (hl : p.length = q.length) (h : ∀ i j, i < p.length → j < p.length → (p.getD i 0 = p.getD j 0 ↔ q.getD i 0 = q.getD j 0)) : p = q := by
  obtain ⟨_, op⟩ := partE_good hp
  obtain ⟨_, oq⟩ := partE_good hq
  have key : ∀ i, i ≤ p.length → nextP p i = nextP q i ∧ ∀ j, j < i → p.getD j 0 = q.getD j 0 := by
    intro i
    induction i with
    | zero => intro _; exact ⟨rfl, fun j hj => by omega⟩
    | succ i ih =>
      intro hi
      obtain ⟨h1, h2⟩ := ih (by omega)
      have a := op i (by omega)
      have b := oq i (by omega)
      have e : p.getD i 0 = q.getD i 0 := by
        by_cases hn : p.getD i 0 = nextP p i
        · by_cases hn2 : q.getD i 0 = nextP q i
          · rw [hn, hn2, h1]
          · exfalso
            obtain ⟨j, hj, ej⟩ := seen_before oq i (by omega) (q.getD i 0) b.1 (by omega)
            have := (h j i (by omega) (by omega)).2 ej
            have hne := (h2 j hj)
            have hm := nextP_mono p (show j + 1 ≤ i by omega)
            have hoj := op j (by omega)
            rw [this, hn] at hoj
            by_cases h3 : p.getD j 0 = nextP p j
            · rw [nextP, if_pos h3] at hm; omega
            · omega
        · obtain ⟨j, hj, ej⟩ := seen_before op i (by omega) (p.getD i 0) a.1 (by omega)
          have := (h j i (by omega) (by omega)).1 ej
          rw [← ej, h2 j hj, this]
      refine ⟨by rw [nextP, nextP, h1, e], fun j hj => ?_⟩
      by_cases hji : j = i
      · subst hji; exact e
      · exact h2 j (by omega)
  exact eq_of_getD (d := (0 : Int)) hl fun j hj => (key p.length (Nat.le_refl _)).2 j hj


def twoE (p q : List Int) : Int := if partE p ≠ 0 then partE p else if partE q ≠ 0 then partE q else if p.length ≠ q.length then 3 else 0
theorem twoE_ok {p q : List Int} (h : twoE p q = 0) : partE p = 0 ∧ partE q = 0 ∧ p.length = q.length ∧ p.length ≤ 12 := by
  unfold twoE at h
  split at h
  · rename_i h1; exact absurd h h1
  · split at h
    · rename_i h1; exact absurd h h1
    · split at h
      · cases h
      · rename_i h1 h2 h3
        have hp : partE p = 0 := by omega
        exact ⟨hp, by omega, by omega, (partE_good hp).1⟩
theorem twoE_zero {p q : List Int} (hp : partE p = 0) (hq : partE q = 0) (hl : p.length = q.length) : twoE p q = 0 := by
  unfold twoE; rw [if_neg (by omega), if_neg (by omega), if_neg (by omega)]
def zipL (p q : List Int) : List (Int × Int) := (List.range p.length).map fun i => (p.getD i 0, q.getD i 0)
theorem zipL_get {p q : List Int} {i : Nat} (h : i < p.length) : (zipL p q).getD i (0, 0) = (p.getD i 0, q.getD i 0) := by simp [zipL, List.getD, h]
def meetL (p q : List Int) : List Int := if twoE p q = 0 then numQ .two (zipL p q) p.length else []
def ofE (l : List Int) : Int := if 12 < l.length then 4 else 0
def ofL (l : List Int) : List Int := if 12 < l.length then [] else numQ .int l l.length
theorem meet_app (p q : List Int) {i : Nat} (h : i < p.length) : qAdd .two (p.getD i 0, q.getD i 0) (qAt .two (zipL p q) i) = qAt .two (zipL p q) (i + 1) := by
  rw [qAt, show List.getD (zipL p q) i (dT .two) = (p.getD i 0, q.getD i 0) from zipL_get h]
theorem meet_num (p q : List Int) {i : Nat} (h : i < p.length) : numQ .two (zipL p q) i ++ [qIdx .two (p.getD i 0, q.getD i 0) (qAt .two (zipL p q) i)] = numQ .two (zipL p q) (i + 1) := by
  rw [← numQ_step, show List.getD (zipL p q) i (dT .two) = (p.getD i 0, q.getD i 0) from zipL_get h]

theorem two_fn (p q : List Int) : LiftsD Tryd.prog 58 [.sl .int p, .sl .int q] (.er 66 (twoE p q)) := by
  refine LiftsD.of_body 23 [.tmp 4] Tryd.func58 rfl Tryd.ntmps58 (by kernel_rfl) rfl rfl fun w0 X0 => ?_
  refine AWPD.seq fun K1 hK1 => ?_
  -- region 0
  refine AWPD.keep [0, 1] rfl ?_
  refine AWPD.region tabOK rfl ?_
  refine hK1 _ _ ?_
  clear hK1
  refine AWPD.seq fun K2 hK2 => ?_
  refine AWPD.seq fun K3 hK3 => ?_
  -- region 1
  refine AWPD.keep [0, 1] rfl ?_
  refine AWPD.region tabOK rfl ?_
  refine Exists.intro _ (Exists.intro _ (And.intro (StepD.call (part_fn _) rfl rfl rfl) (And.intro rfl (And.intro trivial ?_))))
  refine hK3 _ _ ?_
  clear hK3
  refine AWPD.seq fun K4 hK4 => ?_
  -- region 2
  refine AWPD.keep [0, 1, 5] rfl ?_
  refine AWPD.region tabOK rfl ?_
  refine hK4 _ _ ?_
  clear hK4
  first | refine AWPD.condP rfl (fun h0 => ?_) (fun h0 => ?_) | refine AWPD.condN rfl (fun h0 => ?_) (fun h0 => ?_) | refine AWPD.condAP rfl (fun h0 => ?_) (fun h0 => ?_) | refine AWPD.condOP rfl (fun h0 => ?_) (fun h0 => ?_) | refine AWPD.condONN rfl (fun h0 => ?_) (fun h0 => ?_) | refine AWPD.condOPN rfl (fun h0 => ?_) (fun h0 => ?_) | refine AWPD.condA rfl (fun h0 => ?_) (fun h0 => ?_) | refine AWPD.condO rfl (fun h0 => ?_) (fun h0 => ?_) | refine AWPD.cond rfl (fun h0 => ?_) (fun h0 => ?_)
  · try dsimp only [Ty.T] at h0
    try simp only [castL_self] at h0
    try simp only [Int.toNat_natCast] at h0
    try simp only [Int.toNat_zero] at h0
    refine AWPD.seq fun K5 hK5 => ?_
    -- region 3
    refine AWPD.keep [5] rfl ?_
    refine AWPD.region tabOK rfl ?_
    refine hK5 _ _ ?_
    clear hK5
    refine AWPD.ret (And.intro (.inl rfl) ?_)
    -- result 0
    refine RetD.one ?_
    exact fitE rfl (by simp [twoE, h0])
  · try dsimp only [Ty.T] at h0
    try simp only [castL_self] at h0
    try simp only [Int.toNat_natCast] at h0
    try simp only [Int.toNat_zero] at h0
    have hp : partE p = 0 := by simpa using h0
    obtain ⟨hl, -⟩ := partE_good hp
    refine AWPD.skip ?_
    refine hK2 _ _ ?_
    clear hK2
    refine AWPD.seq fun K6 hK6 => ?_
    refine AWPD.seq fun K7 hK7 => ?_
    -- region 4
    refine AWPD.keep [0, 1] rfl ?_
    refine AWPD.region tabOK rfl ?_
    refine Exists.intro _ (Exists.intro _ (And.intro (StepD.call (part_fn _) rfl rfl rfl) (And.intro rfl (And.intro trivial ?_))))
    refine hK7 _ _ ?_
    clear hK7
    refine AWPD.seq fun K8 hK8 => ?_
    -- region 5
    refine AWPD.keep [0, 1, 6] rfl ?_
    refine AWPD.region tabOK rfl ?_
    refine hK8 _ _ ?_
    clear hK8
    first | refine AWPD.condP rfl (fun h1 => ?_) (fun h1 => ?_) | refine AWPD.condN rfl (fun h1 => ?_) (fun h1 => ?_) | refine AWPD.condAP rfl (fun h1 => ?_) (fun h1 => ?_) | refine AWPD.condOP rfl (fun h1 => ?_) (fun h1 => ?_) | refine AWPD.condONN rfl (fun h1 => ?_) (fun h1 => ?_) | refine AWPD.condOPN rfl (fun h1 => ?_) (fun h1 => ?_) | refine AWPD.condA rfl (fun h1 => ?_) (fun h1 => ?_) | refine AWPD.condO rfl (fun h1 => ?_) (fun h1 => ?_) | refine AWPD.cond rfl (fun h1 => ?_) (fun h1 => ?_)
    · try dsimp only [Ty.T] at h1
      try simp only [castL_self] at h1
      try simp only [Int.toNat_natCast] at h1
      try simp only [Int.toNat_zero] at h1
      refine AWPD.seq fun K9 hK9 => ?_
      -- region 6
      refine AWPD.keep [6] rfl ?_
      refine AWPD.region tabOK rfl ?_
      refine hK9 _ _ ?_
      clear hK9
      refine AWPD.ret (And.intro (.inl rfl) ?_)
      -- result 1
      refine RetD.one ?_
      exact fitE rfl (by simp [twoE, hp, h1])
    · try dsimp only [Ty.T] at h1
      try simp only [castL_self] at h1
      try simp only [Int.toNat_natCast] at h1
      try simp only [Int.toNat_zero] at h1
      have hq : partE q = 0 := by simpa using h1
      obtain ⟨hlq, -⟩ := partE_good hq
      refine AWPD.skip ?_
      refine hK6 _ _ ?_
      clear hK6
      refine AWPD.seq fun K10 hK10 => ?_
      refine AWPD.seq fun K11 hK11 => ?_
      -- region 7
      refine AWPD.keep [0, 1] rfl ?_
      refine AWPD.region tabOK rfl ?_
      refine hK11 _ _ ?_
      clear hK11
      first | refine AWPD.condP rfl (fun h2 => ?_) (fun h2 => ?_) | refine AWPD.condN rfl (fun h2 => ?_) (fun h2 => ?_) | refine AWPD.condAP rfl (fun h2 => ?_) (fun h2 => ?_) | refine AWPD.condOP rfl (fun h2 => ?_) (fun h2 => ?_) | refine AWPD.condONN rfl (fun h2 => ?_) (fun h2 => ?_) | refine AWPD.condOPN rfl (fun h2 => ?_) (fun h2 => ?_) | refine AWPD.condA rfl (fun h2 => ?_) (fun h2 => ?_) | refine AWPD.condO rfl (fun h2 => ?_) (fun h2 => ?_) | refine AWPD.cond rfl (fun h2 => ?_) (fun h2 => ?_)
      · try dsimp only [Ty.T] at h2
        try simp only [castL_self] at h2
        try simp only [Int.toNat_natCast] at h2
        try simp only [Int.toNat_zero] at h2
        refine AWPD.seq fun K12 hK12 => ?_
        -- region 8
        refine AWPD.keep [] rfl ?_
        refine AWPD.region tabOK rfl ?_
        repeat refine And.intro (by first | exact fun h => h | exact fun _ => rfl | (intro h; rw [h]; rfl) | omega | (intros; (try dsimp only [Ty.T, Ty.size]); (try simp only [castL_self, Int.toNat_natCast, Int.toNat_zero, Int.toNat_one, true_and, List.length_append, List.length_set, List.length_drop, List.length_take, List.length_replicate, List.length_cons, List.length_nil, Nat.zero_add, Nat.mul_one]); omega) | decide | (intros; simp_all; done) | (intros; simp_all; omega)) ?_
        refine hK12 _ _ ?_
        clear hK12
        refine AWPD.ret (And.intro (.inl rfl) ?_)
        -- result 2
        refine RetD.one ?_
        exact fitE rfl (by unfold twoE; rw [if_neg h0, if_neg h1, if_pos (by omega)])
      · try dsimp only [Ty.T] at h2
        try simp only [castL_self] at h2
        try simp only [Int.toNat_natCast] at h2
        try simp only [Int.toNat_zero] at h2
        refine AWPD.skip ?_
        refine hK10 _ _ ?_
        clear hK10
        refine AWPD.seq fun K13 hK13 => ?_
        -- region 9
        refine AWPD.keep [] rfl ?_
        refine AWPD.region tabOK rfl ?_
        refine hK13 _ _ ?_
        clear hK13
        refine AWPD.ret (And.intro (.inl rfl) ?_)
        -- result 3
        refine RetD.one ?_
        exact fitE rfl (twoE_zero hp hq (by omega)).symm
theorem of_fn (l : List Int) : LiftsD Tryd.prog 25 [.sl .int l] (.tup [.sl .int (ofL l), .er 66 (ofE l)]) := by
  refine LiftsD.of_body 31 [.tmp 2, .tmp 3] Tryd.func25 rfl Tryd.ntmps25 (by kernel_rfl) rfl rfl fun w0 X0 => ?_
  refine AWPD.seq fun K1 hK1 => ?_
  -- region 0
  refine AWPD.keep [0] rfl ?_
  refine AWPD.region tabOK rfl ?_
  refine hK1 _ _ ?_
  clear hK1
  refine AWPD.seq fun K2 hK2 => ?_
  refine AWPD.seq fun K3 hK3 => ?_
  -- region 1
  refine AWPD.keep [0] rfl ?_
  refine AWPD.region tabOK rfl ?_
  refine hK3 _ _ ?_
  clear hK3
  first | refine AWPD.condP rfl (fun h0 => ?_) (fun h0 => ?_) | refine AWPD.condN rfl (fun h0 => ?_) (fun h0 => ?_) | refine AWPD.condAP rfl (fun h0 => ?_) (fun h0 => ?_) | refine AWPD.condOP rfl (fun h0 => ?_) (fun h0 => ?_) | refine AWPD.condONN rfl (fun h0 => ?_) (fun h0 => ?_) | refine AWPD.condOPN rfl (fun h0 => ?_) (fun h0 => ?_) | refine AWPD.condA rfl (fun h0 => ?_) (fun h0 => ?_) | refine AWPD.condO rfl (fun h0 => ?_) (fun h0 => ?_) | refine AWPD.cond rfl (fun h0 => ?_) (fun h0 => ?_)
  · try dsimp only [Ty.T] at h0
    try simp only [castL_self] at h0
    try simp only [Int.toNat_natCast] at h0
    try simp only [Int.toNat_zero] at h0
    refine AWPD.seq fun K4 hK4 => ?_
    -- region 2
    refine AWPD.keep [] rfl ?_
    refine AWPD.region tabOK rfl ?_
    repeat refine And.intro (by first | exact fun h => h | exact fun _ => rfl | (intro h; rw [h]; rfl) | omega | (intros; (try dsimp only [Ty.T, Ty.size]); (try simp only [castL_self, Int.toNat_natCast, Int.toNat_zero, Int.toNat_one, true_and, List.length_append, List.length_set, List.length_drop, List.length_take, List.length_replicate, List.length_cons, List.length_nil, Nat.zero_add, Nat.mul_one]); omega) | decide | (intros; simp_all; done) | (intros; simp_all; omega)) ?_
    refine hK4 _ _ ?_
    clear hK4
    refine AWPD.ret (And.intro (.inl rfl) ?_)
    -- result 0
    exact ⟨fitN rfl (by unfold ofL; rw [if_pos (by omega)]) (by decide), fitE rfl (by unfold ofE; rw [if_pos (by omega)])⟩
  · try dsimp only [Ty.T] at h0
    try simp only [castL_self] at h0
    try simp only [Int.toNat_natCast] at h0
    try simp only [Int.toNat_zero] at h0
    refine AWPD.skip ?_
    refine hK2 _ _ ?_
    clear hK2
    refine AWPD.seq fun K5 hK5 => ?_
    -- region 3
    refine AWPD.keep [0] rfl ?_
    refine AWPD.region tabOK rfl ?_
    refine hK5 _ _ ?_
    clear hK5
    refine AWPD.seq fun K6 hK6 => ?_
    -- region 4
    refine AWPD.keep [0, 4] rfl ?_
    refine AWPD.region tabOK rfl ?_
    refine hK6 _ _ ?_
    clear hK6
    refine AWPD.seq fun K7 hK7 => ?_
    refine AWPD.seq fun K8 hK8 => ?_
    -- region 5
    refine AWPD.keep [0, 4, 5] rfl ?_
    refine AWPD.region tabOK rfl ?_
    refine hK8 _ _ ?_
    clear hK8
    refine AWPD.block ?_
    -- LOOP 0 live [4, 5, 14, 15, 16] changed [5, 16]
    refine AWPD.newQ 0 3 .int rfl ?_
    refine AWPD.nilRow 5 3 .int rfl (by decide) ?_
    refine AWPD.loopK (σ := Nat) [14, 15] (fun i base => (4, .op 0 0) :: (5, .ob 1) :: (16, .i (i : Int)) :: base) (fun i => [.que 75 3 .int (qAt .int l i), .row 3 .int (numQ .int l i)]) (fun n i => n + i = l.length) (l.length) 0 [0, 1] rfl rfl (by omega) (by decide) ⟨rfl, ⟨rfl, rfl, rfl⟩, trivial⟩ (by repeat' first | exact True.intro | exact rfl | exact ⟨rfl, rfl⟩ | refine And.intro ?_ ?_) fun n0 i hI0 => ?_
    have hn0 := hI0
    have hql := qAt_len .int l i
    have hnl := numQ_len .int l i
    refine AWPD.seq fun K9 hK9 => ?_
    -- region 6
    refine AWPD.keep [4, 5, 14, 15, 16] rfl ?_
    refine AWPD.region tabOK rfl ?_
    refine hK9 _ _ ?_
    clear hK9
    refine AWPD.seq fun K10 hK10 => ?_
    first | refine AWPD.condP rfl (fun h1 => ?_) (fun h1 => ?_) | refine AWPD.condN rfl (fun h1 => ?_) (fun h1 => ?_) | refine AWPD.condAP rfl (fun h1 => ?_) (fun h1 => ?_) | refine AWPD.condOP rfl (fun h1 => ?_) (fun h1 => ?_) | refine AWPD.condONN rfl (fun h1 => ?_) (fun h1 => ?_) | refine AWPD.condOPN rfl (fun h1 => ?_) (fun h1 => ?_) | refine AWPD.condA rfl (fun h1 => ?_) (fun h1 => ?_) | refine AWPD.condO rfl (fun h1 => ?_) (fun h1 => ?_) | refine AWPD.cond rfl (fun h1 => ?_) (fun h1 => ?_)
    · try dsimp only [Ty.T] at h1
      try simp only [castL_self] at h1
      try simp only [Int.toNat_natCast] at h1
      try simp only [Int.toNat_zero] at h1
      refine AWPD.skip ?_
      refine hK10 _ _ ?_
      clear hK10
      refine AWPD.seq fun K11 hK11 => ?_
      refine AWPD.block ?_
      refine AWPD.seq fun K12 hK12 => ?_
      -- region 7
      refine AWPD.keep [4, 5, 14, 15, 16] rfl ?_
      refine AWPD.region tabOK rfl ?_
      repeat refine And.intro (by first | exact fun h => h | exact fun _ => rfl | (intro h; rw [h]; rfl) | omega | (intros; (try dsimp only [Ty.T, Ty.size]); (try simp only [castL_self, Int.toNat_natCast, Int.toNat_zero, Int.toNat_one, true_and, List.length_append, List.length_set, List.length_drop, List.length_take, List.length_replicate, List.length_cons, List.length_nil, Nat.zero_add, Nat.mul_one]); omega) | decide | (intros; simp_all; done) | (intros; simp_all; omega)) ?_
      refine hK12 _ _ ?_
      clear hK12
      refine AWPD.seq fun K13 hK13 => ?_
      -- region 8
      refine AWPD.keep [4, 5, 7, 14, 15, 16] rfl ?_
      refine AWPD.region tabOK rfl ?_
      refine Exists.intro _ (Exists.intro _ (And.intro (StepD.callO (i := 0) (addI_fn _ _ (by omega)) rfl rfl rfl rfl (by first | exact rfl | exact row_free _ _ _) (by first | exact rfl | exact row_free _ _ _)) (And.intro rfl (And.intro trivial ?_))))
      refine hK13 _ _ ?_
      clear hK13
      -- region 9
      refine AWPD.keep [4, 5, 8, 14, 15, 16] rfl ?_
      refine AWPD.region tabOK rfl ?_
      repeat refine And.intro (by first | exact fun h => h | exact fun _ => rfl | (intro h; rw [h]; rfl) | omega | (intros; (try dsimp only [Ty.T, Ty.size]); (try simp only [castL_self, Int.toNat_natCast, Int.toNat_zero, Int.toNat_one, true_and, List.length_append, List.length_set, List.length_drop, List.length_take, List.length_replicate, List.length_cons, List.length_nil, Nat.zero_add, Nat.mul_one]); omega) | decide | (intros; simp_all; done) | (intros; simp_all; omega)) ?_
      refine hK11 _ _ ?_
      clear hK11
      -- region 10
      refine AWPD.keep [4, 5, 14, 15, 16] rfl ?_
      refine AWPD.region tabOK rfl ?_
      repeat refine And.intro (by first | exact fun h => h | exact fun _ => rfl | (intro h; rw [h]; rfl) | omega | (intros; (try dsimp only [Ty.T, Ty.size]); (try simp only [castL_self, Int.toNat_natCast, Int.toNat_zero, Int.toNat_one, true_and, List.length_append, List.length_set, List.length_drop, List.length_take, List.length_replicate, List.length_cons, List.length_nil, Nat.zero_add, Nat.mul_one]); omega) | decide | (intros; simp_all; done) | (intros; simp_all; omega)) ?_
      refine ⟨n0 - 1, i + 1, [0, 2], by omega, by omega, ⟨by decide, rfl⟩, ⟨rfl, ⟨rfl, rfl, numQ_step .int l i⟩, trivial⟩, ?_⟩
      repeat' first | exact True.intro | exact rfl | exact ⟨rfl, rfl⟩ | refine And.intro ?_ ?_
    · try dsimp only [Ty.T] at h1
      try simp only [castL_self] at h1
      try simp only [Int.toNat_natCast] at h1
      try simp only [Int.toNat_zero] at h1
      refine AWPD.exit ?_
      refine hK7 _ _ ?_
      clear hK7
      refine AWPD.seq fun K14 hK14 => ?_
      -- region 11
      refine AWPD.keep [5] rfl ?_
      refine AWPD.region tabOK rfl ?_
      refine hK14 _ _ ?_
      clear hK14
      refine AWPD.ret (And.intro (.inl rfl) ?_)
      -- result 1
      exact ⟨fitR rfl rfl (by unfold ofL; rw [if_neg (by omega), show l.length = i by omega]), fitE rfl (by unfold ofE; rw [if_neg (by omega)])⟩
theorem meet_fn (p q : List Int) : LiftsD Tryd.prog 29 [.sl .int p, .sl .int q] (.tup [.sl .int (meetL p q), .er 66 (twoE p q)]) := by
  refine LiftsD.of_body 42 [.tmp 4, .tmp 5] Tryd.func29 rfl Tryd.ntmps29 (by kernel_rfl) rfl rfl fun w0 X0 => ?_
  refine AWPD.seq fun K1 hK1 => ?_
  -- region 0
  refine AWPD.keep [0, 1] rfl ?_
  refine AWPD.region tabOK rfl ?_
  refine hK1 _ _ ?_
  clear hK1
  refine AWPD.seq fun K2 hK2 => ?_
  refine AWPD.seq fun K3 hK3 => ?_
  -- region 1
  refine AWPD.keep [0, 1] rfl ?_
  refine AWPD.region tabOK rfl ?_
  refine Exists.intro _ (Exists.intro _ (And.intro (StepD.call (two_fn _ _) rfl rfl rfl) (And.intro rfl (And.intro trivial ?_))))
  refine hK3 _ _ ?_
  clear hK3
  refine AWPD.seq fun K4 hK4 => ?_
  -- region 2
  refine AWPD.keep [0, 1, 6] rfl ?_
  refine AWPD.region tabOK rfl ?_
  refine hK4 _ _ ?_
  clear hK4
  first | refine AWPD.condP rfl (fun h0 => ?_) (fun h0 => ?_) | refine AWPD.condN rfl (fun h0 => ?_) (fun h0 => ?_) | refine AWPD.condAP rfl (fun h0 => ?_) (fun h0 => ?_) | refine AWPD.condOP rfl (fun h0 => ?_) (fun h0 => ?_) | refine AWPD.condONN rfl (fun h0 => ?_) (fun h0 => ?_) | refine AWPD.condOPN rfl (fun h0 => ?_) (fun h0 => ?_) | refine AWPD.condA rfl (fun h0 => ?_) (fun h0 => ?_) | refine AWPD.condO rfl (fun h0 => ?_) (fun h0 => ?_) | refine AWPD.cond rfl (fun h0 => ?_) (fun h0 => ?_)
  · try dsimp only [Ty.T] at h0
    try simp only [castL_self] at h0
    try simp only [Int.toNat_natCast] at h0
    try simp only [Int.toNat_zero] at h0
    refine AWPD.seq fun K5 hK5 => ?_
    -- region 3
    refine AWPD.keep [6] rfl ?_
    refine AWPD.region tabOK rfl ?_
    refine hK5 _ _ ?_
    clear hK5
    refine AWPD.ret (And.intro (.inl rfl) ?_)
    -- result 0
    exact ⟨fitN rfl (by unfold meetL; rw [if_neg h0]) (by decide), fitE rfl rfl⟩
  · try dsimp only [Ty.T] at h0
    try simp only [castL_self] at h0
    try simp only [Int.toNat_natCast] at h0
    try simp only [Int.toNat_zero] at h0
    have he : twoE p q = 0 := by simpa using h0
    obtain ⟨hp, hq, hpq, hl⟩ := twoE_ok he
    refine AWPD.skip ?_
    refine hK2 _ _ ?_
    clear hK2
    refine AWPD.seq fun K6 hK6 => ?_
    -- region 4
    refine AWPD.keep [0, 1] rfl ?_
    refine AWPD.region tabOK rfl ?_
    refine hK6 _ _ ?_
    clear hK6
    refine AWPD.seq fun K7 hK7 => ?_
    -- region 5
    refine AWPD.keep [0, 1, 7] rfl ?_
    refine AWPD.region tabOK rfl ?_
    refine hK7 _ _ ?_
    clear hK7
    refine AWPD.seq fun K8 hK8 => ?_
    refine AWPD.seq fun K9 hK9 => ?_
    -- region 6
    refine AWPD.keep [0, 1, 7, 8] rfl ?_
    refine AWPD.region tabOK rfl ?_
    refine hK9 _ _ ?_
    clear hK9
    refine AWPD.block ?_
    -- LOOP 0 live [0, 1, 7, 8, 19, 20] changed [8, 20]
    refine AWPD.newQ 0 24 .two rfl ?_
    refine AWPD.nilRow 8 3 .int rfl (by decide) ?_
    refine AWPD.loopK (σ := Nat) [0, 1, 19] (fun i base => (7, .op 0 0) :: (8, .ob 1) :: (20, .i (i : Int)) :: base) (fun i => [.que 81 24 .two (qAt .two (zipL p q) i), .row 3 .int (numQ .two (zipL p q) i)]) (fun n i => n + i = p.length) (p.length) 0 [0, 1] rfl rfl (by omega) (by decide) ⟨rfl, ⟨rfl, rfl, rfl⟩, trivial⟩ (by repeat' first | exact True.intro | exact rfl | exact ⟨rfl, rfl⟩ | refine And.intro ?_ ?_) fun n0 i hI0 => ?_
    have hn0 := hI0
    have hql := qAt_len .two (zipL p q) i
    have hnl := numQ_len .two (zipL p q) i
    refine AWPD.seq fun K10 hK10 => ?_
    -- region 7
    refine AWPD.keep [0, 1, 7, 8, 19, 20] rfl ?_
    refine AWPD.region tabOK rfl ?_
    refine hK10 _ _ ?_
    clear hK10
    refine AWPD.seq fun K11 hK11 => ?_
    first | refine AWPD.condP rfl (fun h1 => ?_) (fun h1 => ?_) | refine AWPD.condN rfl (fun h1 => ?_) (fun h1 => ?_) | refine AWPD.condAP rfl (fun h1 => ?_) (fun h1 => ?_) | refine AWPD.condOP rfl (fun h1 => ?_) (fun h1 => ?_) | refine AWPD.condONN rfl (fun h1 => ?_) (fun h1 => ?_) | refine AWPD.condOPN rfl (fun h1 => ?_) (fun h1 => ?_) | refine AWPD.condA rfl (fun h1 => ?_) (fun h1 => ?_) | refine AWPD.condO rfl (fun h1 => ?_) (fun h1 => ?_) | refine AWPD.cond rfl (fun h1 => ?_) (fun h1 => ?_)
    · try dsimp only [Ty.T] at h1
      try simp only [castL_self] at h1
      try simp only [Int.toNat_natCast] at h1
      try simp only [Int.toNat_zero] at h1
      refine AWPD.skip ?_
      refine hK11 _ _ ?_
      clear hK11
      refine AWPD.seq fun K12 hK12 => ?_
      refine AWPD.block ?_
      refine AWPD.seq fun K13 hK13 => ?_
      -- region 8
      refine AWPD.keep [0, 1, 7, 8, 19, 20] rfl ?_
      refine AWPD.region tabOK rfl ?_
      refine hK13 _ _ ?_
      clear hK13
      refine AWPD.seq fun K14 hK14 => ?_
      -- region 9
      refine AWPD.keep [0, 1, 7, 8, 9, 19, 20] rfl ?_
      refine AWPD.draw tabOK [9] rfl (by kernel_rfl) ?_
      repeat refine And.intro (by first | exact fun h => h | exact fun _ => rfl | (intro h; rw [h]; rfl) | omega | (intros; (try dsimp only [Ty.T, Ty.size]); (try simp only [castL_self, Int.toNat_natCast, Int.toNat_zero, Int.toNat_one, true_and, List.length_append, List.length_set, List.length_drop, List.length_take, List.length_replicate, List.length_cons, List.length_nil, Nat.zero_add, Nat.mul_one]); omega) | decide | (intros; simp_all; done) | (intros; simp_all; omega)) ?_
      refine Exists.intro _ (Exists.intro _ (And.intro (StepD.callO (i := 0) (addT_fn (p.getD i 0, q.getD i 0) _ (by omega)) rfl rfl rfl rfl (by first | exact rfl | exact row_free _ _ _) (by first | exact rfl | exact row_free _ _ _)) (And.intro rfl (And.intro trivial ?_))))
      refine hK14 _ _ ?_
      clear hK14
      -- region 10
      refine AWPD.keep [0, 1, 7, 8, 10, 19, 20] rfl ?_
      refine AWPD.region tabOK rfl ?_
      repeat refine And.intro (by first | exact fun h => h | exact fun _ => rfl | (intro h; rw [h]; rfl) | omega | (intros; (try dsimp only [Ty.T, Ty.size]); (try simp only [castL_self, Int.toNat_natCast, Int.toNat_zero, Int.toNat_one, true_and, List.length_append, List.length_set, List.length_drop, List.length_take, List.length_replicate, List.length_cons, List.length_nil, Nat.zero_add, Nat.mul_one]); omega) | decide | (intros; simp_all; done) | (intros; simp_all; omega)) ?_
      refine hK12 _ _ ?_
      clear hK12
      -- region 11
      refine AWPD.keep [0, 1, 7, 8, 19, 20] rfl ?_
      refine AWPD.region tabOK rfl ?_
      repeat refine And.intro (by first | exact fun h => h | exact fun _ => rfl | (intro h; rw [h]; rfl) | omega | (intros; (try dsimp only [Ty.T, Ty.size]); (try simp only [castL_self, Int.toNat_natCast, Int.toNat_zero, Int.toNat_one, true_and, List.length_append, List.length_set, List.length_drop, List.length_take, List.length_replicate, List.length_cons, List.length_nil, Nat.zero_add, Nat.mul_one]); omega) | decide | (intros; simp_all; done) | (intros; simp_all; omega)) ?_
      refine ⟨n0 - 1, i + 1, [0, 2], by omega, by omega, ⟨by decide, rfl⟩, ⟨(by show queR _ _ _ _ = queR _ _ _ _; rw [← meet_app p q (by omega)]), ⟨rfl, rfl, meet_num p q (by omega)⟩, trivial⟩, ?_⟩
      repeat' first | exact True.intro | exact rfl | exact ⟨rfl, rfl⟩ | refine And.intro ?_ ?_
    · try dsimp only [Ty.T] at h1
      try simp only [castL_self] at h1
      try simp only [Int.toNat_natCast] at h1
      try simp only [Int.toNat_zero] at h1
      refine AWPD.exit ?_
      refine hK8 _ _ ?_
      clear hK8
      refine AWPD.seq fun K15 hK15 => ?_
      -- region 12
      refine AWPD.keep [8] rfl ?_
      refine AWPD.region tabOK rfl ?_
      refine hK15 _ _ ?_
      clear hK15
      refine AWPD.ret (And.intro (.inl rfl) ?_)
      -- result 1
      exact ⟨fitR rfl rfl (by unfold meetL; rw [if_pos he, show p.length = i by omega]), fitE rfl he.symm⟩

/-- Groups joined, so far. -/
def relP (p q : List Int) (a b : Nat) : Prop := p.getD a 0 = p.getD b 0 ∨ q.getD a 0 = q.getD b 0
instance (p q : List Int) (a b : Nat) : Decidable (relP p q a b) := by unfold relP; infer_instance
def jnI (p q : List Int) (i : Nat) (g : List Int) : Nat → List Int
  | 0 => g
  | j + 1 => if relP p q i j then (joinG (jnI p q i g j) (i : Int) (j : Int)).1 else jnI p q i g j
def jn (p q : List Int) (n : Nat) : Nat → List Int
  | 0 => idG n
  | i + 1 => jnI p q i (jn p q n i) i
def respC (p q : List Int) (n : Nat) (c : Nat → Nat) : Prop := ∀ a b, a < n → b < n → relP p q a b → c a = c b
structure JN (p q : List Int) (n : Nat) (done : Nat → Nat → Prop) (g : List Int) : Prop where
  uf : UF g
  len : g.length = n
  least : ∀ c, respC p q n c → ∀ k, k < n → c (root g k) = c k
  all : ∀ a b, done a b → relP p q a b → root g a = root g b
theorem JN.step {p q : List Int} {n : Nat} {done done' : Nat → Nat → Prop} {g : List Int} {i j : Nat} (h : JN p q n done g) (hi : i < n) (hj : j < n) (hd : ∀ a b, done' a b → done a b ∨ (a = i ∧ b = j)) :
    JN p q n done' (if relP p q i j then (joinG g (i : Int) (j : Int)).1 else g) := by
  by_cases hr : relP p q i j
  · rw [if_pos hr]
    have J := (joinG_ok h.uf (i := (i : Int)) (j := (j : Int)) (by omega) (by rw [h.len]; omega) (by omega) (by rw [h.len]; omega)).1
    refine ⟨J.uf, by rw [J.len, h.len], fun c hc k hk => ?_, fun a b hab hrab => ?_⟩
    · exact J.least (fun k hk => h.least c hc k (by rw [h.len] at hk; exact hk)) (hc _ _ (by omega) (by omega) (by simpa using hr)) (by rw [h.len]; omega) (by rw [h.len]; omega) k (by rw [J.len, h.len]; exact hk)
    · rcases hd a b hab with h1 | ⟨rfl, rfl⟩
      · exact J.keep (h.all a b h1 hrab)
      · simpa using J.both
  · rw [if_neg hr]
    refine ⟨h.uf, h.len, h.least, fun a b hab hrab => ?_⟩
    rcases hd a b hab with h1 | ⟨rfl, rfl⟩
    · exact h.all a b h1 hrab
    · exact absurd hrab hr
theorem jnI_ok {p q : List Int} {n i : Nat} (hi : i < n) {g : List Int} (h : JN p q n (fun a b => a < i ∧ b < a) g) : ∀ j, j ≤ i → JN p q n (fun a b => (a < i ∧ b < a) ∨ (a = i ∧ b < j)) (jnI p q i g j)
  | 0, _ => ⟨h.uf, h.len, h.least, fun a b hab hr => h.all a b (by omega) hr⟩
  | j + 1, hj => (jnI_ok hi h j (by omega)).step hi (by omega) fun a b hab => by omega
theorem jn_ok (p q : List Int) (n : Nat) : ∀ i, i ≤ n → JN p q n (fun a b => a < i ∧ b < a) (jn p q n i)
  | 0, _ => ⟨idG_uf n, idG_len n, fun c _ k hk => by rw [jn, idG_root hk], fun a b hab => by omega⟩
  | i + 1, h => by
    have := jnI_ok (p := p) (q := q) (by omega) (jn_ok p q n i (by omega)) i (Nat.le_refl _)
    exact ⟨this.uf, this.len, this.least, fun a b hab hr => this.all a b (by omega) hr⟩
def joinL (p q : List Int) : List Int := if twoE p q = 0 then namesG (jn p q p.length p.length) else []
/-- What is together if whoever is in one class of either is. -/
def conn (p q : List Int) (i j : Nat) : Prop := ∀ c, respC p q p.length c → c i = c j

theorem join_fn (p q : List Int) : LiftsD Tryd.prog 30 [.sl .int p, .sl .int q] (.tup [.sl .int (joinL p q), .er 66 (twoE p q)]) := by
  refine LiftsD.of_body 56 [.tmp 4, .tmp 5] Tryd.func30 rfl Tryd.ntmps30 (by kernel_rfl) rfl rfl fun w0 X0 => ?_
  refine AWPD.seq fun K1 hK1 => ?_
  -- region 0
  refine AWPD.keep [0, 1] rfl ?_
  refine AWPD.region tabOK rfl ?_
  refine hK1 _ _ ?_
  clear hK1
  refine AWPD.seq fun K2 hK2 => ?_
  refine AWPD.seq fun K3 hK3 => ?_
  -- region 1
  refine AWPD.keep [0, 1] rfl ?_
  refine AWPD.region tabOK rfl ?_
  refine Exists.intro _ (Exists.intro _ (And.intro (StepD.call (two_fn _ _) rfl rfl rfl) (And.intro rfl (And.intro trivial ?_))))
  refine hK3 _ _ ?_
  clear hK3
  refine AWPD.seq fun K4 hK4 => ?_
  -- region 2
  refine AWPD.keep [0, 1, 6] rfl ?_
  refine AWPD.region tabOK rfl ?_
  refine hK4 _ _ ?_
  clear hK4
  first | refine AWPD.condP rfl (fun h0 => ?_) (fun h0 => ?_) | refine AWPD.condN rfl (fun h0 => ?_) (fun h0 => ?_) | refine AWPD.condAP rfl (fun h0 => ?_) (fun h0 => ?_) | refine AWPD.condOP rfl (fun h0 => ?_) (fun h0 => ?_) | refine AWPD.condONN rfl (fun h0 => ?_) (fun h0 => ?_) | refine AWPD.condOPN rfl (fun h0 => ?_) (fun h0 => ?_) | refine AWPD.condA rfl (fun h0 => ?_) (fun h0 => ?_) | refine AWPD.condO rfl (fun h0 => ?_) (fun h0 => ?_) | refine AWPD.cond rfl (fun h0 => ?_) (fun h0 => ?_)
  · try dsimp only [Ty.T] at h0
    try simp only [castL_self] at h0
    try simp only [Int.toNat_natCast] at h0
    try simp only [Int.toNat_zero] at h0
    refine AWPD.seq fun K5 hK5 => ?_
    -- region 3
    refine AWPD.keep [6] rfl ?_
    refine AWPD.region tabOK rfl ?_
    refine hK5 _ _ ?_
    clear hK5
    refine AWPD.ret (And.intro (.inl rfl) ?_)
    -- result 0
    exact ⟨fitN rfl (by unfold joinL; rw [if_neg h0]) (by decide), fitE rfl rfl⟩
  · try dsimp only [Ty.T] at h0
    try simp only [castL_self] at h0
    try simp only [Int.toNat_natCast] at h0
    try simp only [Int.toNat_zero] at h0
    have he : twoE p q = 0 := by simpa using h0
    obtain ⟨hp, hq, hpq, hl⟩ := twoE_ok he
    refine AWPD.skip ?_
    refine hK2 _ _ ?_
    clear hK2
    refine AWPD.seq fun K6 hK6 => ?_
    -- region 4
    refine AWPD.keep [0, 1] rfl ?_
    refine AWPD.region tabOK rfl ?_
    refine Exists.intro _ (Exists.intro _ (And.intro (StepD.callN (newGroups_fn _ (by omega)) rfl rfl (by first | exact rfl | exact row_free _ _ _)) (And.intro rfl (And.intro trivial ?_))))
    refine hK6 _ _ ?_
    clear hK6
    refine AWPD.seq fun K7 hK7 => ?_
    refine AWPD.seq fun K8 hK8 => ?_
    -- region 5
    refine AWPD.keep [0, 1, 7] rfl ?_
    refine AWPD.region tabOK rfl ?_
    refine hK8 _ _ ?_
    clear hK8
    refine AWPD.block ?_
    -- LOOP 0 live [0, 1, 7, 20, 21] changed [21]
    refine AWPD.loopK (σ := Nat) [0, 1, 20] (fun i base => (7, .ob 0) :: (21, .i (i : Int)) :: base) (fun i => [.row 3 .int (jn p q p.length i)]) (fun n i => n + i = p.length) (p.length) 0 [0] rfl rfl (by omega) (by decide) ⟨⟨rfl, rfl, rfl⟩, trivial⟩ (by repeat' first | exact True.intro | exact rfl | exact ⟨rfl, rfl⟩ | refine And.intro ?_ ?_) fun n0 i hI0 => ?_
    have hn0 := hI0
    refine AWPD.seq fun K9 hK9 => ?_
    -- region 6
    refine AWPD.keep [0, 1, 7, 20, 21] rfl ?_
    refine AWPD.region tabOK rfl ?_
    refine hK9 _ _ ?_
    clear hK9
    refine AWPD.seq fun K10 hK10 => ?_
    first | refine AWPD.condP rfl (fun h1 => ?_) (fun h1 => ?_) | refine AWPD.condN rfl (fun h1 => ?_) (fun h1 => ?_) | refine AWPD.condAP rfl (fun h1 => ?_) (fun h1 => ?_) | refine AWPD.condOP rfl (fun h1 => ?_) (fun h1 => ?_) | refine AWPD.condONN rfl (fun h1 => ?_) (fun h1 => ?_) | refine AWPD.condOPN rfl (fun h1 => ?_) (fun h1 => ?_) | refine AWPD.condA rfl (fun h1 => ?_) (fun h1 => ?_) | refine AWPD.condO rfl (fun h1 => ?_) (fun h1 => ?_) | refine AWPD.cond rfl (fun h1 => ?_) (fun h1 => ?_)
    · try dsimp only [Ty.T] at h1
      try simp only [castL_self] at h1
      try simp only [Int.toNat_natCast] at h1
      try simp only [Int.toNat_zero] at h1
      refine AWPD.skip ?_
      refine hK10 _ _ ?_
      clear hK10
      refine AWPD.seq fun K11 hK11 => ?_
      refine AWPD.block ?_
      refine AWPD.seq fun K12 hK12 => ?_
      -- region 7
      refine AWPD.keep [0, 1, 7, 20, 21] rfl ?_
      refine AWPD.region tabOK rfl ?_
      refine hK12 _ _ ?_
      clear hK12
      refine AWPD.seq fun K13 hK13 => ?_
      -- region 8
      refine AWPD.keep [0, 1, 7, 8, 20, 21] rfl ?_
      refine AWPD.region tabOK rfl ?_
      refine hK13 _ _ ?_
      clear hK13
      refine AWPD.block ?_
      -- LOOP 1 live [0, 1, 7, 8, 20, 21, 24, 25] changed [25]
      refine AWPD.loopK (σ := Nat) [0, 1, 8, 20, 21, 24] (fun j base => (7, .ob 0) :: (25, .i (j : Int)) :: base) (fun j => [.row 3 .int (jnI p q i (jn p q p.length i) j)]) (fun n j => n + j = i) (i) 0 [0] rfl rfl (by omega) (by decide) ⟨⟨rfl, rfl, rfl⟩, trivial⟩ (by repeat' first | exact True.intro | exact rfl | exact ⟨rfl, rfl⟩ | refine And.intro ?_ ?_) fun n1 j hI1 => ?_
      have hn1 := hI1
      have hJ := jnI_ok (p := p) (q := q) (show i < p.length by omega) (jn_ok p q p.length i (by omega)) j (by omega)
      have uI := hJ.uf
      have lI := hJ.len
      refine AWPD.seq fun K14 hK14 => ?_
      -- region 9
      refine AWPD.keep [0, 1, 7, 8, 20, 21, 24, 25] rfl ?_
      refine AWPD.region tabOK rfl ?_
      refine hK14 _ _ ?_
      clear hK14
      refine AWPD.seq fun K15 hK15 => ?_
      first | refine AWPD.condP rfl (fun h2 => ?_) (fun h2 => ?_) | refine AWPD.condN rfl (fun h2 => ?_) (fun h2 => ?_) | refine AWPD.condAP rfl (fun h2 => ?_) (fun h2 => ?_) | refine AWPD.condOP rfl (fun h2 => ?_) (fun h2 => ?_) | refine AWPD.condONN rfl (fun h2 => ?_) (fun h2 => ?_) | refine AWPD.condOPN rfl (fun h2 => ?_) (fun h2 => ?_) | refine AWPD.condA rfl (fun h2 => ?_) (fun h2 => ?_) | refine AWPD.condO rfl (fun h2 => ?_) (fun h2 => ?_) | refine AWPD.cond rfl (fun h2 => ?_) (fun h2 => ?_)
      · try dsimp only [Ty.T] at h2
        try simp only [castL_self] at h2
        try simp only [Int.toNat_natCast] at h2
        try simp only [Int.toNat_zero] at h2
        refine AWPD.skip ?_
        refine hK15 _ _ ?_
        clear hK15
        refine AWPD.seq fun K16 hK16 => ?_
        refine AWPD.block ?_
        refine AWPD.seq fun K17 hK17 => ?_
        -- region 10
        refine AWPD.keep [0, 1, 7, 8, 20, 21, 24, 25] rfl ?_
        refine AWPD.region tabOK rfl ?_
        refine hK17 _ _ ?_
        clear hK17
        refine AWPD.seq fun K18 hK18 => ?_
        -- region 11
        refine AWPD.keep [0, 1, 7, 8, 9, 20, 21, 24, 25] rfl ?_
        refine AWPD.draw tabOK [] rfl (by kernel_rfl) ?_
        repeat refine And.intro (by first | exact fun h => h | exact fun _ => rfl | (intro h; rw [h]; rfl) | omega | (intros; (try dsimp only [Ty.T, Ty.size]); (try simp only [castL_self, Int.toNat_natCast, Int.toNat_zero, Int.toNat_one, true_and, List.length_append, List.length_set, List.length_drop, List.length_take, List.length_replicate, List.length_cons, List.length_nil, Nat.zero_add, Nat.mul_one]); omega) | decide | (intros; simp_all; done) | (intros; simp_all; omega)) ?_
        refine hK18 _ _ ?_
        clear hK18
        first | refine AWPD.condOP rfl (fun h3 => ?_) (fun h3 => ?_)
        · try dsimp only [Ty.T] at h3
          try simp only [castL_self] at h3
          try simp only [Int.toNat_natCast] at h3
          try simp only [Int.toNat_zero] at h3
          have hrel : relP p q i j := h3
          -- region 12
          refine AWPD.keep [0, 1, 7, 8, 9, 20, 21, 24, 25] rfl ?_
          refine AWPD.region tabOK rfl ?_
          refine Exists.intro _ (Exists.intro _ (And.intro (StepD.callO (i := 0) (joinG_fn (jnI p q i (jn p q p.length i) j) (i : Int) (j : Int) uI (by omega) (by omega) (by omega) (by omega) (by omega)) rfl rfl rfl rfl (by first | exact rfl | exact row_free _ _ _) (by first | exact rfl | exact row_free _ _ _)) (And.intro rfl (And.intro trivial ?_))))
          refine hK16 _ _ ?_
          clear hK16
          -- region 13
          refine AWPD.keep [0, 1, 7, 8, 20, 21, 24, 25] rfl ?_
          refine AWPD.region tabOK rfl ?_
          repeat refine And.intro (by first | exact fun h => h | exact fun _ => rfl | (intro h; rw [h]; rfl) | omega | (intros; (try dsimp only [Ty.T, Ty.size]); (try simp only [castL_self, Int.toNat_natCast, Int.toNat_zero, Int.toNat_one, true_and, List.length_append, List.length_set, List.length_drop, List.length_take, List.length_replicate, List.length_cons, List.length_nil, Nat.zero_add, Nat.mul_one]); omega) | decide | (intros; simp_all; done) | (intros; simp_all; omega)) ?_
          refine ⟨n1 - 1, j + 1, [0], by omega, by omega, ⟨by decide, rfl⟩, ⟨⟨rfl, rfl, (by show (joinG (jnI p q i (jn p q p.length i) j) (i : Int) (j : Int)).1 = _; rw [jnI, if_pos hrel])⟩, trivial⟩, ?_⟩
          repeat' first | exact True.intro | exact rfl | exact ⟨rfl, rfl⟩ | refine And.intro ?_ ?_
        · try dsimp only [Ty.T] at h3
          try simp only [castL_self] at h3
          try simp only [Int.toNat_natCast] at h3
          try simp only [Int.toNat_zero] at h3
          have hrel : ¬relP p q i j := fun h => h.elim h3.1 h3.2
          refine AWPD.skip ?_
          refine hK16 _ _ ?_
          clear hK16
          -- region 13
          refine AWPD.keep [0, 1, 7, 8, 20, 21, 24, 25] rfl ?_
          refine AWPD.region tabOK rfl ?_
          repeat refine And.intro (by first | exact fun h => h | exact fun _ => rfl | (intro h; rw [h]; rfl) | omega | (intros; (try dsimp only [Ty.T, Ty.size]); (try simp only [castL_self, Int.toNat_natCast, Int.toNat_zero, Int.toNat_one, true_and, List.length_append, List.length_set, List.length_drop, List.length_take, List.length_replicate, List.length_cons, List.length_nil, Nat.zero_add, Nat.mul_one]); omega) | decide | (intros; simp_all; done) | (intros; simp_all; omega)) ?_
          refine ⟨n1 - 1, j + 1, [0], by omega, by omega, ⟨by decide, rfl⟩, ⟨⟨rfl, rfl, (by show jnI p q i (jn p q p.length i) j = _; rw [jnI, if_neg hrel])⟩, trivial⟩, ?_⟩
          repeat' first | exact True.intro | exact rfl | exact ⟨rfl, rfl⟩ | refine And.intro ?_ ?_
      · try dsimp only [Ty.T] at h2
        try simp only [castL_self] at h2
        try simp only [Int.toNat_natCast] at h2
        try simp only [Int.toNat_zero] at h2
        refine AWPD.exit ?_
        refine hK11 _ _ ?_
        clear hK11
        -- region 14
        refine AWPD.keep [0, 1, 7, 20, 21] rfl ?_
        refine AWPD.region tabOK rfl ?_
        repeat refine And.intro (by first | exact fun h => h | exact fun _ => rfl | (intro h; rw [h]; rfl) | omega | (intros; (try dsimp only [Ty.T, Ty.size]); (try simp only [castL_self, Int.toNat_natCast, Int.toNat_zero, Int.toNat_one, true_and, List.length_append, List.length_set, List.length_drop, List.length_take, List.length_replicate, List.length_cons, List.length_nil, Nat.zero_add, Nat.mul_one]); omega) | decide | (intros; simp_all; done) | (intros; simp_all; omega)) ?_
        refine ⟨n0 - 1, i + 1, [0], by omega, by omega, ⟨by decide, rfl⟩, ⟨⟨rfl, rfl, (by show jnI p q i (jn p q p.length i) j = jn p q p.length (i + 1); rw [jn, show j = i by omega])⟩, trivial⟩, ?_⟩
        repeat' first | exact True.intro | exact rfl | exact ⟨rfl, rfl⟩ | refine And.intro ?_ ?_
    · try dsimp only [Ty.T] at h1
      try simp only [castL_self] at h1
      try simp only [Int.toNat_natCast] at h1
      try simp only [Int.toNat_zero] at h1
      refine AWPD.exit ?_
      refine hK7 _ _ ?_
      clear hK7
      refine AWPD.seq fun K19 hK19 => ?_
      -- region 15
      have hN := jn_ok p q p.length i (by omega)
      have uN := hN.uf
      have lN := hN.len
      refine AWPD.keep [7] rfl ?_
      refine AWPD.region tabOK rfl ?_
      refine Exists.intro _ (Exists.intro _ (And.intro (StepD.callO (i := 0) (names_fn (jn p q p.length i) uN (by omega)) rfl rfl rfl rfl (by first | exact rfl | exact row_free _ _ _) (by first | exact rfl | exact row_free _ _ _)) (And.intro rfl (And.intro trivial ?_))))
      refine hK19 _ _ ?_
      clear hK19
      refine AWPD.ret (And.intro (.inl rfl) ?_)
      -- result 1
      exact ⟨fitS rfl (by unfold joinL; rw [if_pos he, show p.length = i by omega]), fitE rfl he.symm⟩

theorem zip_key {p q : List Int} {i j : Nat} (hi : i < p.length) (hj : j < p.length) : (keyL .two (List.getD (zipL p q) i (dT .two)) = keyL .two (List.getD (zipL p q) j (dT .two)) ↔ p.getD i 0 = p.getD j 0 ∧ q.getD i 0 = q.getD j 0) := by
  rw [show List.getD (zipL p q) i (dT .two) = (p.getD i 0, q.getD i 0) from zipL_get hi, show List.getD (zipL p q) j (dT .two) = (p.getD j 0, q.getD j 0) from zipL_get hj]
  simp [keyL]
/-- Of a partition: it is one, of so many worlds, and tells these apart. -/
structure Parts (l : List Int) (n : Nat) (same : Nat → Nat → Prop) : Prop where
  ok : partE l = 0
  len : l.length = n
  eqv : ∀ i j, i < n → j < n → (l.getD i 0 = l.getD j 0 ↔ same i j)
theorem Parts.own {p : List Int} (h : partE p = 0) : Parts p p.length fun i j => p.getD i 0 = p.getD j 0 := ⟨h, rfl, fun _ _ _ _ => Iff.rfl⟩
theorem Parts.uniq {l k : List Int} {n : Nat} {s t : Nat → Nat → Prop} (a : Parts l n s) (b : Parts k n t) (h : ∀ i j, i < n → j < n → (s i j ↔ t i j)) : l = k :=
  part_same a.ok b.ok (by rw [a.len, b.len]) fun i j hi hj => by
    rw [a.len] at hi hj
    rw [a.eqv i j hi hj, b.eqv i j hi hj, h i j hi hj]
theorem meet_parts {p q : List Int} (h : twoE p q = 0) : Parts (meetL p q) p.length fun i j => p.getD i 0 = p.getD j 0 ∧ q.getD i 0 = q.getD j 0 := by
  obtain ⟨hp, hq, hl, h12⟩ := twoE_ok h
  unfold meetL
  rw [if_pos h]
  exact ⟨num_good _ h12, numQ_len _ _ _, fun i j hi hj => by rw [num_eq _ hi hj, zip_key hi hj]⟩
theorem join_parts {p q : List Int} (h : twoE p q = 0) : Parts (joinL p q) p.length (conn p q) := by
  obtain ⟨hp, hq, hl, h12⟩ := twoE_ok h
  have N := jn_ok p q p.length p.length (Nat.le_refl _)
  unfold joinL
  rw [if_pos h]
  unfold namesG
  rw [N.len]
  refine ⟨num_good _ h12, numQ_len _ _ _, fun i j hi hj => ?_⟩
  rw [num_eq _ hi hj]
  rw [show List.getD (rootsL (jn p q p.length p.length)) i (dT .int) = _ from rootsL_get (by rw [N.len]; exact hi), show List.getD (rootsL (jn p q p.length p.length)) j (dT .int) = _ from rootsL_get (by rw [N.len]; exact hj)]
  simp only [keyL, List.cons.injEq, and_true]
  constructor
  · intro he c hc
    have he : root (jn p q p.length p.length) i = root (jn p q p.length p.length) j := by omega
    rw [← N.least c hc i hi, ← N.least c hc j hj, he]
  · intro hc
    have := hc (root (jn p q p.length p.length)) fun a b ha hb hr => by
      rcases Nat.lt_trichotomy a b with h1 | h1 | h1
      · exact (N.all b a ⟨hb, h1⟩ (hr.imp Eq.symm Eq.symm)).symm
      · rw [h1]
      · exact N.all a b ⟨ha, h1⟩ hr
    omega
theorem conn_l {p q : List Int} {i j : Nat} (hi : i < p.length) (hj : j < p.length) (h : p.getD i 0 = p.getD j 0) : conn p q i j := fun c hc => hc i j hi hj (.inl h)
theorem conn_r {p q : List Int} {i j : Nat} (hi : i < p.length) (hj : j < p.length) (h : q.getD i 0 = q.getD j 0) : conn p q i j := fun c hc => hc i j hi hj (.inr h)
theorem ofL_parts {l : List Int} (h : l.length ≤ 12) : Parts (ofL l) l.length fun i j => l.getD i 0 = l.getD j 0 := by
  unfold ofL
  rw [if_neg (by omega)]
  refine ⟨num_good _ h, numQ_len _ _ _, fun i j hi hj => ?_⟩
  rw [num_eq _ hi hj]
  simp only [keyL, List.cons.injEq, and_true]
  exact Iff.rfl
theorem of_own {p : List Int} (h : partE p = 0) : ofE p = 0 ∧ ofL p = p := by
  have hl := (partE_good h).1
  exact ⟨by unfold ofE; rw [if_neg (by omega)], (ofL_parts hl).uniq (Parts.own h) fun _ _ _ _ => Iff.rfl⟩
/-! ### The rules of meet and join -/
theorem part_rules {p q : List Int} (h : twoE p q = 0) : meetL p q = meetL q p ∧ joinL p q = joinL q p ∧ twoE p (joinL p q) = 0 ∧ twoE p (meetL p q) = 0 ∧ meetL p (joinL p q) = p ∧ joinL p (meetL p q) = p := by
  obtain ⟨hp, hq, hl, h12⟩ := twoE_ok h
  have h' := twoE_zero hq hp hl.symm
  have M := meet_parts h
  have M' := meet_parts h'
  have J := join_parts h
  have J' := join_parts h'
  rw [← hl] at M' J'
  have e1 := twoE_zero hp J.ok (by rw [J.len])
  have e2 := twoE_zero hp M.ok (by rw [M.len])
  have O := Parts.own hp
  refine ⟨M.uniq M' fun i j _ _ => And.comm, J.uniq J' fun i j _ _ => ?_, e1, e2, (meet_parts e1).uniq O fun i j hi hj => ?_, (join_parts e2).uniq O fun i j hi hj => ?_⟩
  · unfold conn respC relP
    rw [hl]
    exact ⟨fun hc c h => hc c fun a b ha hb hr => h a b ha hb hr.symm, fun hc c h => hc c fun a b ha hb hr => h a b ha hb hr.symm⟩
  · exact ⟨fun h => h.1, fun h => ⟨h, (J.eqv i j hi hj).2 (conn_l hi hj h)⟩⟩
  · constructor
    · intro hc
      have := hc (fun k => (p.getD k 0).toNat) fun a b ha hb hr => by
        rcases hr with hr | hr
        · show (p.getD a 0).toNat = (p.getD b 0).toNat
          rw [hr]
        · show (p.getD a 0).toNat = (p.getD b 0).toNat
          rw [((M.eqv a b ha hb).1 hr).1]
      have a := class_lt hp hi
      have b := class_lt hp hj
      have this : (p.getD i 0).toNat = (p.getD j 0).toNat := this
      omega
    · exact conn_l hi hj
theorem two_ends {p q r : List Int} (h : twoE p q = 0) : (twoE (joinL p q) r = 0 ↔ partE r = 0 ∧ r.length = p.length) ∧ (twoE q r = 0 ↔ partE r = 0 ∧ r.length = p.length) ∧ (twoE (meetL p q) r = 0 ↔ partE r = 0 ∧ r.length = p.length) ∧ (twoE p r = 0 ↔ partE r = 0 ∧ r.length = p.length) ∧
    (twoE r p = 0 ↔ partE r = 0 ∧ r.length = p.length) ∧ (twoE r q = 0 ↔ partE r = 0 ∧ r.length = p.length) ∧ (twoE r (meetL p q) = 0 ↔ partE r = 0 ∧ r.length = p.length) := by
  obtain ⟨hp, hq, hl, h12⟩ := twoE_ok h
  have M := meet_parts h
  have J := join_parts h
  have go : ∀ {k : List Int}, partE k = 0 → k.length = p.length → (twoE k r = 0 ↔ partE r = 0 ∧ r.length = p.length) ∧ (twoE r k = 0 ↔ partE r = 0 ∧ r.length = p.length) := fun hk hkl =>
    ⟨⟨fun h => let ⟨_, b, c, _⟩ := twoE_ok h; ⟨b, by omega⟩, fun h => twoE_zero hk h.1 (by omega)⟩, ⟨fun h => let ⟨a, _, c, _⟩ := twoE_ok h; ⟨a, by omega⟩, fun h => twoE_zero h.1 hk (by omega)⟩⟩
  exact ⟨(go J.ok J.len).1, (go hq hl.symm).1, (go M.ok M.len).1, (go hp rfl).1, (go hp rfl).2, (go hq hl.symm).2, (go M.ok M.len).2⟩
theorem join_assoc {p q r : List Int} (h : twoE p q = 0) (hr : partE r = 0) (hrl : r.length = p.length) : twoE p (joinL q r) = 0 ∧ joinL (joinL p q) r = joinL p (joinL q r) := by
  obtain ⟨hp, hq, hl, h12⟩ := twoE_ok h
  have J := join_parts h
  have e1 := twoE_zero hq hr (by omega)
  have e2 := twoE_zero J.ok hr (by rw [J.len, hrl])
  have K := join_parts e1
  rw [← hl] at K
  have e3 := twoE_zero hp K.ok (by rw [K.len])
  have A := join_parts e2
  rw [J.len] at A
  refine ⟨e3, A.uniq (join_parts e3) fun i j hi hj => ?_⟩
  unfold conn respC
  rw [J.len]
  constructor
  · intro hc c h
    refine hc c fun a b ha hb hr => ?_
    rcases hr with hr | hr
    · refine (J.eqv a b ha hb).1 hr c fun x y hx hy hxy => ?_
      rcases hxy with hxy | hxy
      · exact h x y hx hy (.inl hxy)
      · exact h x y hx hy (.inr ((K.eqv x y hx hy).2 (conn_l (by omega) (by omega) hxy)))
    · exact h a b ha hb (.inr ((K.eqv a b ha hb).2 (conn_r (by omega) (by omega) hr)))
  · intro hc c h
    refine hc c fun a b ha hb hr => ?_
    rcases hr with hr | hr
    · exact h a b ha hb (.inl ((J.eqv a b ha hb).2 (conn_l ha hb hr)))
    · refine (K.eqv a b ha hb).1 hr c fun x y hx hy hxy => ?_
      rw [← hl] at hx hy
      rcases hxy with hxy | hxy
      · exact h x y hx hy (.inl ((J.eqv x y hx hy).2 (conn_r hx hy hxy)))
      · exact h x y hx hy (.inr hxy)


def finB (p q : List Int) (i j : Nat) : Prop := ¬(p.getD i 0 = p.getD j 0 ∧ q.getD i 0 ≠ q.getD j 0)
def finerV (p q : List Int) : Bool := if twoE p q = 0 then (List.range p.length).all fun i => (List.range i).all fun j => !(decide (p.getD i 0 = p.getD j 0) && decide (q.getD i 0 ≠ q.getD j 0)) else false
theorem finerV_iff {p q : List Int} (h : twoE p q = 0) : finerV p q = true ↔ ∀ i, i < p.length → ∀ j, j < i → finB p q i j := by
  unfold finerV finB
  rw [if_pos h]
  simp only [List.all_eq_true, List.mem_range, Bool.not_eq_true', Bool.and_eq_false_iff, decide_eq_false_iff_not]
  exact ⟨fun h i hi j hj hc => (h i hi j hj).elim (fun h => h hc.1) (fun h => h hc.2), fun h i hi j hj => Decidable.or_iff_not_imp_left.2 fun h1 h2 => h i hi j hj ⟨Decidable.not_not.1 h1, h2⟩⟩
theorem finerV_all {p q : List Int} (h : twoE p q = 0) : finerV p q = true ↔ ∀ i j, i < p.length → j < p.length → p.getD i 0 = p.getD j 0 → q.getD i 0 = q.getD j 0 := by
  rw [finerV_iff h]
  constructor
  · intro H i j hi hj he
    rcases Nat.lt_trichotomy i j with h1 | h1 | h1
    · exact Decidable.not_not.1 fun hn => H j hj i h1 ⟨he.symm, fun e => hn e.symm⟩
    · rw [h1]
    · exact Decidable.not_not.1 fun hn => H i hi j h1 ⟨he, hn⟩
  · exact fun H i hi j hj hc => hc.2 (H i j hi (by omega) hc.1)
theorem bool_ext {a b : Bool} (h : a = true ↔ b = true) : a = b := by cases a <;> cases b <;> simp_all

theorem finer_fn (p q : List Int) : LiftsD Tryd.prog 31 [.sl .int p, .sl .int q] (.tup [.b (finerV p q), .er 66 (twoE p q)]) := by
  refine LiftsD.of_body 46 [.tmp 4, .tmp 5] Tryd.func31 rfl Tryd.ntmps31 (by kernel_rfl) rfl rfl fun w0 X0 => ?_
  refine AWPD.seq fun K1 hK1 => ?_
  -- region 0
  refine AWPD.keep [0, 1] rfl ?_
  refine AWPD.region tabOK rfl ?_
  refine hK1 _ _ ?_
  clear hK1
  refine AWPD.seq fun K2 hK2 => ?_
  refine AWPD.seq fun K3 hK3 => ?_
  -- region 1
  refine AWPD.keep [0, 1] rfl ?_
  refine AWPD.region tabOK rfl ?_
  refine Exists.intro _ (Exists.intro _ (And.intro (StepD.call (two_fn _ _) rfl rfl rfl) (And.intro rfl (And.intro trivial ?_))))
  refine hK3 _ _ ?_
  clear hK3
  refine AWPD.seq fun K4 hK4 => ?_
  -- region 2
  refine AWPD.keep [0, 1, 6] rfl ?_
  refine AWPD.region tabOK rfl ?_
  refine hK4 _ _ ?_
  clear hK4
  first | refine AWPD.condP rfl (fun h0 => ?_) (fun h0 => ?_) | refine AWPD.condN rfl (fun h0 => ?_) (fun h0 => ?_) | refine AWPD.condAP rfl (fun h0 => ?_) (fun h0 => ?_) | refine AWPD.condOP rfl (fun h0 => ?_) (fun h0 => ?_) | refine AWPD.condONN rfl (fun h0 => ?_) (fun h0 => ?_) | refine AWPD.condOPN rfl (fun h0 => ?_) (fun h0 => ?_) | refine AWPD.condA rfl (fun h0 => ?_) (fun h0 => ?_) | refine AWPD.condO rfl (fun h0 => ?_) (fun h0 => ?_) | refine AWPD.cond rfl (fun h0 => ?_) (fun h0 => ?_)
  · try dsimp only [Ty.T] at h0
    try simp only [castL_self] at h0
    try simp only [Int.toNat_natCast] at h0
    try simp only [Int.toNat_zero] at h0
    refine AWPD.seq fun K5 hK5 => ?_
    -- region 3
    refine AWPD.keep [6] rfl ?_
    refine AWPD.region tabOK rfl ?_
    refine hK5 _ _ ?_
    clear hK5
    refine AWPD.ret (And.intro (.inl rfl) ?_)
    -- result 0
    exact ⟨fitB rfl (by simp [finerV, h0]), fitE rfl rfl⟩
  · try dsimp only [Ty.T] at h0
    try simp only [castL_self] at h0
    try simp only [Int.toNat_natCast] at h0
    try simp only [Int.toNat_zero] at h0
    have he : twoE p q = 0 := by simpa using h0
    obtain ⟨hp, hq, hpq, hl⟩ := twoE_ok he
    refine AWPD.skip ?_
    refine hK2 _ _ ?_
    clear hK2
    refine AWPD.seq fun K6 hK6 => ?_
    refine AWPD.seq fun K7 hK7 => ?_
    -- region 4
    refine AWPD.keep [0, 1] rfl ?_
    refine AWPD.region tabOK rfl ?_
    refine hK7 _ _ ?_
    clear hK7
    refine AWPD.block ?_
    -- LOOP 0 live [0, 1, 16, 17] changed [17]
    refine AWPD.loopK (σ := Nat) [0, 1, 16] (fun i base => (17, .i (i : Int)) :: base) (fun _ => []) (fun n i => n + i = p.length ∧ ∀ a, a < i → ∀ b, b < a → finB p q a b) (p.length) 0 [] rfl rfl (⟨by omega, by intro a ha; omega⟩) (by decide) trivial (by repeat' first | exact True.intro | exact rfl | exact ⟨rfl, rfl⟩ | refine And.intro ?_ ?_) fun n0 i hI0 => ?_
    obtain ⟨hn0, hv0⟩ := hI0
    refine AWPD.seq fun K8 hK8 => ?_
    -- region 5
    refine AWPD.keep [0, 1, 16, 17] rfl ?_
    refine AWPD.region tabOK rfl ?_
    refine hK8 _ _ ?_
    clear hK8
    refine AWPD.seq fun K9 hK9 => ?_
    first | refine AWPD.condP rfl (fun h1 => ?_) (fun h1 => ?_) | refine AWPD.condN rfl (fun h1 => ?_) (fun h1 => ?_) | refine AWPD.condAP rfl (fun h1 => ?_) (fun h1 => ?_) | refine AWPD.condOP rfl (fun h1 => ?_) (fun h1 => ?_) | refine AWPD.condONN rfl (fun h1 => ?_) (fun h1 => ?_) | refine AWPD.condOPN rfl (fun h1 => ?_) (fun h1 => ?_) | refine AWPD.condA rfl (fun h1 => ?_) (fun h1 => ?_) | refine AWPD.condO rfl (fun h1 => ?_) (fun h1 => ?_) | refine AWPD.cond rfl (fun h1 => ?_) (fun h1 => ?_)
    · try dsimp only [Ty.T] at h1
      try simp only [castL_self] at h1
      try simp only [Int.toNat_natCast] at h1
      try simp only [Int.toNat_zero] at h1
      refine AWPD.skip ?_
      refine hK9 _ _ ?_
      clear hK9
      refine AWPD.seq fun K10 hK10 => ?_
      refine AWPD.block ?_
      refine AWPD.seq fun K11 hK11 => ?_
      -- region 6
      refine AWPD.keep [0, 1, 16, 17] rfl ?_
      refine AWPD.region tabOK rfl ?_
      refine hK11 _ _ ?_
      clear hK11
      refine AWPD.seq fun K12 hK12 => ?_
      -- region 7
      refine AWPD.keep [0, 1, 7, 16, 17] rfl ?_
      refine AWPD.region tabOK rfl ?_
      refine hK12 _ _ ?_
      clear hK12
      refine AWPD.block ?_
      -- LOOP 1 live [0, 1, 7, 16, 17, 20, 21] changed [21]
      refine AWPD.loopK (σ := Nat) [0, 1, 7, 16, 17, 20] (fun j base => (21, .i (j : Int)) :: base) (fun _ => []) (fun n j => n + j = i ∧ ∀ b, b < j → finB p q i b) (i) 0 [] rfl rfl (⟨by omega, by intro b hb; omega⟩) (by decide) trivial (by repeat' first | exact True.intro | exact rfl | exact ⟨rfl, rfl⟩ | refine And.intro ?_ ?_) fun n1 j hI1 => ?_
      obtain ⟨hn1, hv1⟩ := hI1
      refine AWPD.seq fun K13 hK13 => ?_
      -- region 8
      refine AWPD.keep [0, 1, 7, 16, 17, 20, 21] rfl ?_
      refine AWPD.region tabOK rfl ?_
      refine hK13 _ _ ?_
      clear hK13
      refine AWPD.seq fun K14 hK14 => ?_
      first | refine AWPD.condP rfl (fun h2 => ?_) (fun h2 => ?_) | refine AWPD.condN rfl (fun h2 => ?_) (fun h2 => ?_) | refine AWPD.condAP rfl (fun h2 => ?_) (fun h2 => ?_) | refine AWPD.condOP rfl (fun h2 => ?_) (fun h2 => ?_) | refine AWPD.condONN rfl (fun h2 => ?_) (fun h2 => ?_) | refine AWPD.condOPN rfl (fun h2 => ?_) (fun h2 => ?_) | refine AWPD.condA rfl (fun h2 => ?_) (fun h2 => ?_) | refine AWPD.condO rfl (fun h2 => ?_) (fun h2 => ?_) | refine AWPD.cond rfl (fun h2 => ?_) (fun h2 => ?_)
      · try dsimp only [Ty.T] at h2
        try simp only [castL_self] at h2
        try simp only [Int.toNat_natCast] at h2
        try simp only [Int.toNat_zero] at h2
        refine AWPD.skip ?_
        refine hK14 _ _ ?_
        clear hK14
        refine AWPD.seq fun K15 hK15 => ?_
        refine AWPD.block ?_
        refine AWPD.seq fun K16 hK16 => ?_
        -- region 9
        refine AWPD.keep [0, 1, 7, 16, 17, 20, 21] rfl ?_
        refine AWPD.region tabOK rfl ?_
        refine hK16 _ _ ?_
        clear hK16
        refine AWPD.seq fun K17 hK17 => ?_
        -- region 10
        refine AWPD.keep [0, 1, 7, 8, 16, 17, 20, 21] rfl ?_
        refine AWPD.draw tabOK [] rfl (by kernel_rfl) ?_
        repeat refine And.intro (by first | exact fun h => h | exact fun _ => rfl | (intro h; rw [h]; rfl) | omega | (intros; (try dsimp only [Ty.T, Ty.size]); (try simp only [castL_self, Int.toNat_natCast, Int.toNat_zero, Int.toNat_one, true_and, List.length_append, List.length_set, List.length_drop, List.length_take, List.length_replicate, List.length_cons, List.length_nil, Nat.zero_add, Nat.mul_one]); omega) | decide | (intros; simp_all; done) | (intros; simp_all; omega)) ?_
        refine hK17 _ _ ?_
        clear hK17
        first | refine AWPD.condAP rfl (fun h3 => ?_) (fun h3 => ?_)
        · try dsimp only [Ty.T] at h3
          try simp only [castL_self] at h3
          try simp only [Int.toNat_natCast] at h3
          try simp only [Int.toNat_zero] at h3
          refine AWPD.seq fun K18 hK18 => ?_
          -- region 11
          refine AWPD.keep [] rfl ?_
          refine AWPD.region tabOK rfl ?_
          refine hK18 _ _ ?_
          clear hK18
          refine AWPD.ret (And.intro (.inl rfl) ?_)
          -- result 1
          exact ⟨fitB rfl (Bool.eq_false_iff.2 fun h => (finerV_iff he).1 h i (by omega) j (by omega) h3).symm, fitE rfl he.symm⟩
        · try dsimp only [Ty.T] at h3
          try simp only [castL_self] at h3
          try simp only [Int.toNat_natCast] at h3
          try simp only [Int.toNat_zero] at h3
          refine AWPD.skip ?_
          refine hK15 _ _ ?_
          clear hK15
          -- region 12
          refine AWPD.keep [0, 1, 7, 16, 17, 20, 21] rfl ?_
          refine AWPD.region tabOK rfl ?_
          repeat refine And.intro (by first | exact fun h => h | exact fun _ => rfl | (intro h; rw [h]; rfl) | omega | (intros; (try dsimp only [Ty.T, Ty.size]); (try simp only [castL_self, Int.toNat_natCast, Int.toNat_zero, Int.toNat_one, true_and, List.length_append, List.length_set, List.length_drop, List.length_take, List.length_replicate, List.length_cons, List.length_nil, Nat.zero_add, Nat.mul_one]); omega) | decide | (intros; simp_all; done) | (intros; simp_all; omega)) ?_
          refine ⟨n1 - 1, j + 1, [], by omega, ⟨by omega, fun b hb => by
                rcases Nat.lt_or_ge b j with h | h
                · exact hv1 b h
                · rw [show b = j by omega]; exact h3⟩, ⟨by decide, rfl⟩, trivial, ?_⟩
          repeat' first | exact True.intro | exact rfl | exact ⟨rfl, rfl⟩ | refine And.intro ?_ ?_
      · try dsimp only [Ty.T] at h2
        try simp only [castL_self] at h2
        try simp only [Int.toNat_natCast] at h2
        try simp only [Int.toNat_zero] at h2
        refine AWPD.exit ?_
        refine hK10 _ _ ?_
        clear hK10
        -- region 13
        refine AWPD.keep [0, 1, 16, 17] rfl ?_
        refine AWPD.region tabOK rfl ?_
        repeat refine And.intro (by first | exact fun h => h | exact fun _ => rfl | (intro h; rw [h]; rfl) | omega | (intros; (try dsimp only [Ty.T, Ty.size]); (try simp only [castL_self, Int.toNat_natCast, Int.toNat_zero, Int.toNat_one, true_and, List.length_append, List.length_set, List.length_drop, List.length_take, List.length_replicate, List.length_cons, List.length_nil, Nat.zero_add, Nat.mul_one]); omega) | decide | (intros; simp_all; done) | (intros; simp_all; omega)) ?_
        refine ⟨n0 - 1, i + 1, [], by omega, ⟨by omega, fun a ha b hb => by
              rcases Nat.lt_or_ge a i with h | h
              · exact hv0 a h b hb
              · rw [show a = i by omega] at hb ⊢; exact hv1 b (by omega)⟩, ⟨by decide, rfl⟩, trivial, ?_⟩
        repeat' first | exact True.intro | exact rfl | exact ⟨rfl, rfl⟩ | refine And.intro ?_ ?_
    · try dsimp only [Ty.T] at h1
      try simp only [castL_self] at h1
      try simp only [Int.toNat_natCast] at h1
      try simp only [Int.toNat_zero] at h1
      refine AWPD.exit ?_
      refine hK6 _ _ ?_
      clear hK6
      refine AWPD.seq fun K19 hK19 => ?_
      -- region 14
      refine AWPD.keep [] rfl ?_
      refine AWPD.region tabOK rfl ?_
      refine hK19 _ _ ?_
      clear hK19
      refine AWPD.ret (And.intro (.inl rfl) ?_)
      -- result 2
      exact ⟨fitB rfl ((finerV_iff he).2 fun a ha b hb => hv0 a (by omega) b hb).symm, fitE rfl he.symm⟩

theorem finer_no {p q : List Int} (h : twoE p q ≠ 0) : finerV p q = false := by unfold finerV; rw [if_neg h]
theorem part_bounds {p q : List Int} (h : twoE p q = 0) : twoE (meetL p q) p = 0 ∧ twoE (meetL p q) q = 0 ∧ twoE p (joinL p q) = 0 ∧ twoE q (joinL p q) = 0 ∧ finerV (meetL p q) p = true ∧ finerV (meetL p q) q = true ∧ finerV p (joinL p q) = true ∧ finerV q (joinL p q) = true := by
  obtain ⟨hp, hq, hl, h12⟩ := twoE_ok h
  have M := meet_parts h
  have J := join_parts h
  have e1 := twoE_zero M.ok hp M.len
  have e2 := twoE_zero M.ok hq (by rw [M.len, hl])
  have e3 := twoE_zero hp J.ok J.len.symm
  have e4 := twoE_zero hq J.ok (by rw [J.len, hl])
  refine ⟨e1, e2, e3, e4, (finerV_all e1).2 fun i j hi hj he => ?_, (finerV_all e2).2 fun i j hi hj he => ?_, (finerV_all e3).2 fun i j hi hj he => ?_, (finerV_all e4).2 fun i j hi hj he => ?_⟩
  · rw [M.len] at hi hj; exact ((M.eqv i j hi hj).1 he).1
  · rw [M.len] at hi hj; exact ((M.eqv i j hi hj).1 he).2
  · exact (J.eqv i j hi hj).2 (conn_l hi hj he)
  · rw [← hl] at hi hj; exact (J.eqv i j hi hj).2 (conn_r hi hj he)
theorem part_least {p q r : List Int} (h : twoE p q = 0) (hr : partE r = 0) (hrl : r.length = p.length) : finerV r (meetL p q) = (bif finerV r p then finerV r q else false) ∧ twoE (joinL p q) r = 0 ∧ finerV (joinL p q) r = (bif finerV p r then finerV q r else false) := by
  obtain ⟨hp, hq, hl, h12⟩ := twoE_ok h
  have M := meet_parts h
  have J := join_parts h
  have f1 := finerV_all (twoE_zero hr M.ok (by rw [M.len, hrl]))
  have f2 := finerV_all (twoE_zero hr hp hrl)
  have f3 := finerV_all (twoE_zero hr hq (by omega))
  have e4 := twoE_zero J.ok hr (by rw [J.len, hrl])
  have f4 := finerV_all e4
  have f5 := finerV_all (twoE_zero hp hr hrl.symm)
  have f6 := finerV_all (twoE_zero hq hr (by omega))
  refine ⟨bool_ext ?_, e4, bool_ext ?_⟩
  · rw [Bool.cond_false_right, Bool.and_eq_true, f1, f2, f3]
    constructor
    · exact fun H => ⟨fun i j hi hj he => ((M.eqv i j (by omega) (by omega)).1 (H i j hi hj he)).1, fun i j hi hj he => ((M.eqv i j (by omega) (by omega)).1 (H i j hi hj he)).2⟩
    · exact fun H i j hi hj he => (M.eqv i j (by omega) (by omega)).2 ⟨H.1 i j hi hj he, H.2 i j hi hj he⟩
  · rw [Bool.cond_false_right, Bool.and_eq_true, f4, f5, f6, J.len]
    constructor
    · exact fun H => ⟨fun i j hi hj he => H i j hi hj ((J.eqv i j hi hj).2 (conn_l hi hj he)), fun i j hi hj he => by rw [← hl] at hi hj; exact H i j hi hj ((J.eqv i j hi hj).2 (conn_r hi hj he))⟩
    · rintro ⟨H1, H2⟩ i j hi hj he
      have hc := (J.eqv i j hi hj).1 he (fun k => (r.getD k 0).toNat) fun a b ha hb hab => by
        show (r.getD a 0).toNat = (r.getD b 0).toNat
        rcases hab with hab | hab
        · rw [H1 a b ha hb hab]
        · rw [H2 a b (by omega) (by omega) hab]
      have hc : (r.getD i 0).toNat = (r.getD j 0).toNat := hc
      have a := class_lt hr (j := i) (by omega)
      have b := class_lt hr (j := j) (by omega)
      omega

end Go.Proofs.YtkdihpajgmiolaaDoor
