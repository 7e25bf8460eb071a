/-
  WALKS of the document's answers on rows: what is wrong with them, rows blurred, how few look alike.
-/
import Derived.Test.YtmeacgkhabnjlaaDoorQwLw
import Derived.Test.YtmeacgkhabnjlaaDoorQwAr
namespace Go.Proofs.YtmeacgkhabnjlaaDoor
open Go Go.Qw
set_option maxRecDepth 10000
set_option linter.unusedSimpArgs false
set_option linter.unusedVariables false
set_option linter.unusedSectionVars false
set_option maxHeartbeats 2000000


def HInv (t : List (List Int)) (hs : List Int) (i : Nat) (e : Int) : Prop := (e = 0 ∧ rowsE t = 0 ∧ hs.length = (t.getD 0 []).length ∧ ∀ j, j < i → heightG hs j = 0) ∨ (e ≠ 0 ∧ e = heightsE t hs)
theorem HInv.startT {t : List (List Int)} {hs : List Int} (h : rowsE t = 0 ∧ hs.length ≠ (t.getD 0 []).length) : HInv t hs 0 3 := .inr ⟨by decide, by unfold heightsE; rw [if_neg (fun hh => hh h.1), if_pos h.2]⟩
theorem HInv.startF {t : List (List Int)} {hs : List Int} (h : ¬(rowsE t = 0 ∧ hs.length ≠ (t.getD 0 []).length)) : HInv t hs 0 (rowsE t) := by
  by_cases h0 : rowsE t = 0
  · refine .inl ⟨h0, h0, Decidable.not_not.1 fun hl => h ⟨h0, hl⟩, fun j hj => by omega⟩
  · exact .inr ⟨h0, by unfold heightsE; rw [if_pos h0]⟩
theorem HInv.cols {t : List (List Int)} {hs : List Int} {i : Nat} {e : Int} (h : HInv t hs i e) (h0 : e = 0) : hs.length ≤ 3 := by
  rcases h with ⟨_, h1, h2, _⟩ | ⟨h1, _⟩
  · have := (rows_good h1).cols; omega
  · exact absurd h0 h1
theorem HInv.bad {t : List (List Int)} {hs : List Int} {i : Nat} {e : Int} (h : HInv t hs i e) (h0 : e = 0) (hi : i < hs.length) (hb : ¬(0 ≤ hs.getD i 0 ∧ hs.getD i 0 ≤ 3)) : HInv t hs (i + 1) 1 := by
  rcases h with ⟨_, h1, h2, h3⟩ | ⟨h1, _⟩
  · exact .inr ⟨by decide, (heightsE_bad h1 h2 hi h3 hb).symm⟩
  · exact absurd h0 h1
theorem HInv.next {t : List (List Int)} {hs : List Int} {i : Nat} {e : Int} (h : HInv t hs i e) (h0 : e = 0) (hb : 0 ≤ hs.getD i 0 ∧ hs.getD i 0 ≤ 3) : HInv t hs (i + 1) e := by
  rcases h with ⟨_, h1, h2, h3⟩ | ⟨h1, _⟩
  · refine .inl ⟨h0, h1, h2, fun j hj => ?_⟩
    rcases Nat.lt_or_ge j i with h | h
    · exact h3 j h
    · rw [show j = i by omega]; unfold heightG; rw [if_pos hb]
  · exact absurd h0 h1
theorem HInv.done {t : List (List Int)} {hs : List Int} {i : Nat} {e : Int} (h : HInv t hs i e) (h0 : ¬(i < hs.length ∧ e = 0)) : e = heightsE t hs := by
  rcases h with ⟨h1, h2, h3, h4⟩ | ⟨_, h2⟩
  · rw [heightsE_ok h2 h3 fun j hj => h4 j (by omega), h1]
  · exact h2
def blurQ (row hs : List Int) (i : Nat) : List Int := (List.range i).map fun k => row.getD k 0 / ((powN (hs.getD k 0).toNat : Nat) : Int)
theorem blurQ_len (row hs : List Int) (i : Nat) : (blurQ row hs i).length = i := by simp [blurQ]
theorem blurQ_snoc (row hs : List Int) (i : Nat) : blurQ row hs i ++ [row.getD i 0 / ((powN (hs.getD i 0).toNat : Nat) : Int)] = blurQ row hs (i + 1) := by simp [blurQ, List.range_succ]
theorem blurQ_get {row hs : List Int} {i k : Nat} (h : k < i) : (blurQ row hs i).getD k 0 = row.getD k 0 / ((2 ^ (hs.getD k 0).toNat : Nat) : Int) := by simp [blurQ, List.getD, h, powN]
def blurR (row hs : List Int) : List Int := blurQ row hs row.length
def blurTo (t : List (List Int)) (hs : List Int) (i : Nat) : List (List Int) := (List.range i).map fun j => blurR (t.getD j []) hs
def blurT (t : List (List Int)) (hs : List Int) : List (List Int) := blurTo t hs t.length
theorem blurTo_len (t : List (List Int)) (hs : List Int) (i : Nat) : (blurTo t hs i).length = i := by simp [blurTo]
theorem blurTo_snoc (t : List (List Int)) (hs : List Int) (i : Nat) : blurTo t hs i ++ [blurR (t.getD i []) hs] = blurTo t hs (i + 1) := by simp [blurTo, List.range_succ]
theorem blurT_get {t : List (List Int)} {hs : List Int} {i : Nat} (h : i < t.length) : (blurT t hs).getD i [] = blurR (t.getD i []) hs := by simp [blurT, blurTo, List.getD, h]
def sameB (a b : List Int) : Bool := decide (∀ k ∈ List.range a.length, a.getD k 0 = b.getD k 0)
theorem sameB_iff {a b : List Int} : sameB a b = true ↔ ∀ k, k < a.length → a.getD k 0 = b.getD k 0 := by
  unfold sameB; rw [decide_eq_true_eq]
  exact ⟨fun h k hk => h k (List.mem_range.2 hk), fun h k hk => h k (List.mem_range.1 hk)⟩
theorem sameB_no {a b : List Int} {k : Nat} (hk : k < a.length) (h : ¬a.getD k 0 = b.getD k 0) : false = sameB a b := by
  symm
  rw [Bool.eq_false_iff]
  exact fun hb => h (sameB_iff.1 hb k hk)
theorem sameB_key {t : List (List Int)} {hs : List Int} (g : RowsG t) {i j : Nat} (hi : i < t.length) (hj : j < t.length) : sameB ((blurT t hs).getD i []) ((blurT t hs).getD j []) = true ↔ keyAt t hs j = keyAt t hs i := by
  have li := g.len i hi
  have lj := g.len j hj
  have gc := g.cols
  rw [sameB_iff, blurT_get hi, blurT_get hj]
  unfold keyAt blurR
  rw [blurL_iff, blurQ_len]
  constructor
  · intro h k _
    by_cases hk : k < (t.getD i []).length
    · have := h k hk
      rw [blurQ_get hk, blurQ_get (by omega)] at this
      rw [if_pos (by omega), if_pos hk, this]
    · rw [if_neg (by omega), if_neg hk]
  · intro h k hk
    have := h k (by omega)
    rw [if_pos (by omega), if_pos hk] at this
    rw [blurQ_get hk, blurQ_get (by omega), this]
theorem cnt_yes {t : List (List Int)} {hs q : List Int} {j : Nat} (h : keyAt t hs j = q) : ((cntTo t hs q j : Nat) : Int) + 1 = ((cntTo t hs q (j + 1) : Nat) : Int) := by rw [cntTo, if_pos h]; rfl
theorem cnt_no {t : List (List Int)} {hs q : List Int} {j : Nat} (h : ¬keyAt t hs j = q) : ((cntTo t hs q j : Nat) : Int) = ((cntTo t hs q (j + 1) : Nat) : Int) := by rw [cntTo, if_neg h]; rfl
theorem few_yes {t : List (List Int)} {hs : List Int} {i j : Nat} (hj : j = t.length) (h : cntTo t hs (keyAt t hs i) j < fewTo t hs i) : ((cntTo t hs (keyAt t hs i) j : Nat) : Int) = ((fewTo t hs (i + 1) : Nat) : Int) := by
  subst hj; rw [fewTo, Nat.min_eq_right (by omega)]
theorem few_no {t : List (List Int)} {hs : List Int} {i j : Nat} (hj : j = t.length) (h : ¬cntTo t hs (keyAt t hs i) j < fewTo t hs i) : ((fewTo t hs i : Nat) : Int) = ((fewTo t hs (i + 1) : Nat) : Int) := by
  subst hj; rw [fewTo, Nat.min_eq_left (by omega)]
theorem fewTo_le (t : List (List Int)) (hs : List Int) : ∀ i, fewTo t hs i ≤ t.length
  | 0 => Nat.le_refl _
  | i + 1 => Nat.le_trans (Nat.min_le_left _ _) (fewTo_le t hs i)

theorem in4_fn (n lo hi : Int) : LiftsD Tryd.prog 36 [.i n, .i lo, .i hi] (.b (decide (lo ≤ n ∧ n ≤ hi))) := by
  refine LiftsD.of_body 15 [.tmp 6] Tryd.func36 rfl Tryd.ntmps36 (by kernel_rfl) rfl rfl fun w0 X0 => ?_
  refine AWPD.seq fun K1 hK1 => ?_
  -- region 0
  refine AWPD.keep [0, 1, 2] rfl ?_
  refine AWPD.region tabOK rfl ?_
  refine hK1 _ _ ?_
  clear hK1
  refine AWPD.seq fun K2 hK2 => ?_
  -- region 1
  refine AWPD.keep [0, 1, 2] rfl ?_
  refine AWPD.region tabOK rfl ?_
  repeat refine And.intro (by first | exact fun h => h | exact fun _ => rfl | (intro h; rw [h]; rfl) | omega | (intros; (try dsimp only [Ty.T, Ty.size]); (try simp only [castL_self, Int.toNat_natCast, Int.toNat_zero, Int.toNat_one, true_and, List.length_append, List.length_set, List.length_drop, List.length_take, List.length_replicate, List.length_cons, List.length_nil, Nat.zero_add, Nat.mul_one]); omega) | decide | (intros; simp_all; done) | (intros; simp_all; omega)) ?_
  refine hK2 _ _ ?_
  clear hK2
  refine AWPD.ret (And.intro (.inl rfl) ?_)
  -- result 0
  refine RetD.one ?_
  refine fitB rfl ?_
  show (bif decide (lo ≤ n) then decide (n ≤ hi) else false) = decide (lo ≤ n ∧ n ≤ hi)
  simp
theorem rrows_fn (t : List (List Int)) : LiftsD Tryd.prog 19 [.sl (.sl .int) t] (.i (rowsE t)) := by
  refine LiftsD.of_body 52 [.tmp 2] Tryd.func19 rfl Tryd.ntmps19 (by kernel_rfl) rfl rfl fun w0 X0 => ?_
  refine AWPD.seq fun K1 hK1 => ?_
  -- region 0
  refine AWPD.keep [0] rfl ?_
  refine AWPD.region tabOK rfl ?_
  refine hK1 _ _ ?_
  clear hK1
  refine AWPD.seq fun K2 hK2 => ?_
  refine AWPD.seq fun K3 hK3 => ?_
  -- region 1
  refine AWPD.keep [0] rfl ?_
  refine AWPD.region tabOK rfl ?_
  refine hK3 _ _ ?_
  clear hK3
  first | refine AWPD.condP rfl (fun h0 => ?_) (fun h0 => ?_) | refine AWPD.condN rfl (fun h0 => ?_) (fun h0 => ?_) | refine AWPD.condAP rfl (fun h0 => ?_) (fun h0 => ?_) | refine AWPD.condOP rfl (fun h0 => ?_) (fun h0 => ?_) | refine AWPD.condONN rfl (fun h0 => ?_) (fun h0 => ?_) | refine AWPD.condOPN rfl (fun h0 => ?_) (fun h0 => ?_) | refine AWPD.condA rfl (fun h0 => ?_) (fun h0 => ?_) | refine AWPD.condO rfl (fun h0 => ?_) (fun h0 => ?_) | refine AWPD.cond rfl (fun h0 => ?_) (fun h0 => ?_)
  · try dsimp only [Ty.T] at h0
    try simp only [castL_self] at h0
    try simp only [Int.toNat_natCast] at h0
    try simp only [Int.toNat_zero] at h0
    refine AWPD.seq fun K4 hK4 => ?_
    -- region 2
    refine AWPD.keep [] rfl ?_
    refine AWPD.region tabOK rfl ?_
    refine hK4 _ _ ?_
    clear hK4
    refine AWPD.ret (And.intro (.inl rfl) ?_)
    -- result 0
    refine RetD.one ?_
    exact fitI rfl (by unfold rowsE; rw [if_pos (by omega)])
  · try dsimp only [Ty.T] at h0
    try simp only [castL_self] at h0
    try simp only [Int.toNat_natCast] at h0
    try simp only [Int.toNat_zero] at h0
    refine AWPD.skip ?_
    refine hK2 _ _ ?_
    clear hK2
    refine AWPD.seq fun K5 hK5 => ?_
    refine AWPD.seq fun K6 hK6 => ?_
    -- region 3
    refine AWPD.keep [0] rfl ?_
    refine AWPD.region tabOK rfl ?_
    repeat refine And.intro (by first | exact fun h => h | exact fun _ => rfl | (intro h; rw [h]; rfl) | omega | (intros; (try dsimp only [Ty.T, Ty.size]); (try simp only [castL_self, Int.toNat_natCast, Int.toNat_zero, Int.toNat_one, true_and, List.length_append, List.length_set, List.length_drop, List.length_take, List.length_replicate, List.length_cons, List.length_nil, Nat.zero_add, Nat.mul_one]); omega) | decide | (intros; simp_all; done) | (intros; simp_all; omega)) ?_
    refine hK6 _ _ ?_
    clear hK6
    first | refine AWPD.condP rfl (fun h1 => ?_) (fun h1 => ?_) | refine AWPD.condN rfl (fun h1 => ?_) (fun h1 => ?_) | refine AWPD.condAP rfl (fun h1 => ?_) (fun h1 => ?_) | refine AWPD.condOP rfl (fun h1 => ?_) (fun h1 => ?_) | refine AWPD.condONN rfl (fun h1 => ?_) (fun h1 => ?_) | refine AWPD.condOPN rfl (fun h1 => ?_) (fun h1 => ?_) | refine AWPD.condA rfl (fun h1 => ?_) (fun h1 => ?_) | refine AWPD.condO rfl (fun h1 => ?_) (fun h1 => ?_) | refine AWPD.cond rfl (fun h1 => ?_) (fun h1 => ?_)
    · try dsimp only [Ty.T] at h1
      try simp only [castL_self] at h1
      try simp only [Int.toNat_natCast] at h1
      try simp only [Int.toNat_zero] at h1
      refine AWPD.seq fun K7 hK7 => ?_
      -- region 4
      refine AWPD.keep [] rfl ?_
      refine AWPD.region tabOK rfl ?_
      refine hK7 _ _ ?_
      clear hK7
      refine AWPD.ret (And.intro (.inl rfl) ?_)
      -- result 1
      refine RetD.one ?_
      exact fitI rfl (by unfold rowsE; rw [if_neg (by omega), if_pos (by omega)])
    · try dsimp only [Ty.T] at h1
      try simp only [castL_self] at h1
      try simp only [Int.toNat_natCast] at h1
      try simp only [Int.toNat_zero] at h1
      refine AWPD.skip ?_
      refine hK5 _ _ ?_
      clear hK5
      refine AWPD.seq fun K8 hK8 => ?_
      refine AWPD.seq fun K9 hK9 => ?_
      -- region 5
      refine AWPD.keep [0] rfl ?_
      refine AWPD.region tabOK rfl ?_
      refine hK9 _ _ ?_
      clear hK9
      refine AWPD.block ?_
      -- LOOP 0 live [0, 3] changed [3]
      refine AWPD.loopK (σ := Nat) [0] (fun i base => (3, .i (i : Int)) :: base) (fun _ => []) (fun n i => n + i = t.length ∧ ∀ j, j < i → rowG (t.getD 0 []).length (t.getD j []) = 0) (t.length) 0 [] rfl rfl (⟨by omega, by intro j hj; omega⟩) (by decide) trivial (by repeat' first | exact True.intro | exact rfl | exact ⟨rfl, rfl⟩ | refine And.intro ?_ ?_) fun n0 i hI0 => ?_
      obtain ⟨hn0, hv0⟩ := hI0
      refine AWPD.seq fun K10 hK10 => ?_
      refine AWPD.seq fun K11 hK11 => ?_
      -- region 6
      refine AWPD.keep [0, 3] rfl ?_
      refine AWPD.region tabOK rfl ?_
      refine hK11 _ _ ?_
      clear hK11
      first | refine AWPD.condP rfl (fun h2 => ?_) (fun h2 => ?_) | refine AWPD.condN rfl (fun h2 => ?_) (fun h2 => ?_) | refine AWPD.condAP rfl (fun h2 => ?_) (fun h2 => ?_) | refine AWPD.condOP rfl (fun h2 => ?_) (fun h2 => ?_) | refine AWPD.condONN rfl (fun h2 => ?_) (fun h2 => ?_) | refine AWPD.condOPN rfl (fun h2 => ?_) (fun h2 => ?_) | refine AWPD.condA rfl (fun h2 => ?_) (fun h2 => ?_) | refine AWPD.condO rfl (fun h2 => ?_) (fun h2 => ?_) | refine AWPD.cond rfl (fun h2 => ?_) (fun h2 => ?_)
      · try dsimp only [Ty.T] at h2
        try simp only [castL_self] at h2
        try simp only [Int.toNat_natCast] at h2
        try simp only [Int.toNat_zero] at h2
        refine AWPD.skip ?_
        refine hK10 _ _ ?_
        clear hK10
        refine AWPD.seq fun K12 hK12 => ?_
        refine AWPD.block ?_
        refine AWPD.seq fun K13 hK13 => ?_
        refine AWPD.seq fun K14 hK14 => ?_
        -- region 8
        refine AWPD.keep [0, 3] rfl ?_
        refine AWPD.draw tabOK [] rfl (by kernel_rfl) ?_
        repeat refine And.intro (by first | exact fun h => h | exact fun _ => rfl | (intro h; rw [h]; rfl) | omega | (intros; (try dsimp only [Ty.T, Ty.size]); (try simp only [castL_self, Int.toNat_natCast, Int.toNat_zero, Int.toNat_one, true_and, List.length_append, List.length_set, List.length_drop, List.length_take, List.length_replicate, List.length_cons, List.length_nil, Nat.zero_add, Nat.mul_one]); omega) | decide | (intros; simp_all; done) | (intros; simp_all; omega)) ?_
        refine hK14 _ _ ?_
        clear hK14
        first | refine AWPD.condP rfl (fun h3 => ?_) (fun h3 => ?_) | refine AWPD.condN rfl (fun h3 => ?_) (fun h3 => ?_) | refine AWPD.condAP rfl (fun h3 => ?_) (fun h3 => ?_) | refine AWPD.condOP rfl (fun h3 => ?_) (fun h3 => ?_) | refine AWPD.condONN rfl (fun h3 => ?_) (fun h3 => ?_) | refine AWPD.condOPN rfl (fun h3 => ?_) (fun h3 => ?_) | refine AWPD.condA rfl (fun h3 => ?_) (fun h3 => ?_) | refine AWPD.condO rfl (fun h3 => ?_) (fun h3 => ?_) | refine AWPD.cond rfl (fun h3 => ?_) (fun h3 => ?_)
        · try dsimp only [Ty.T] at h3
          try simp only [castL_self] at h3
          try simp only [Int.toNat_natCast] at h3
          try simp only [Int.toNat_zero] at h3
          refine AWPD.seq fun K15 hK15 => ?_
          -- region 9
          refine AWPD.keep [] rfl ?_
          refine AWPD.region tabOK rfl ?_
          refine hK15 _ _ ?_
          clear hK15
          refine AWPD.ret (And.intro (.inl rfl) ?_)
          -- result 2
          refine RetD.one ?_
          have e : rowG (t.getD 0 []).length (t.getD i []) = 3 := by unfold rowG; rw [if_pos (by omega)]
          exact fitI rfl (by rw [rowsE_bad (by omega) (by omega) (by omega) hv0 (by rw [e]; decide), e])
        · try dsimp only [Ty.T] at h3
          try simp only [castL_self] at h3
          try simp only [Int.toNat_natCast] at h3
          try simp only [Int.toNat_zero] at h3
          have hli : (t.getD i []).length = (t.getD 0 []).length := by omega
          refine AWPD.skip ?_
          refine hK13 _ _ ?_
          clear hK13
          refine AWPD.seq fun K16 hK16 => ?_
          -- region 10
          refine AWPD.keep [0, 3] rfl ?_
          refine AWPD.region tabOK rfl ?_
          refine hK16 _ _ ?_
          clear hK16
          refine AWPD.block ?_
          -- LOOP 1 live [0, 3, 4] changed [4]
          refine AWPD.loopK (σ := Nat) [0, 3] (fun k base => (4, .i (k : Int)) :: base) (fun _ => []) (fun n k => n + k = (t.getD i []).length ∧ ∀ j, j < k → 0 ≤ (t.getD i []).getD j 0 ∧ (t.getD i []).getD j 0 ≤ 7) ((t.getD i []).length) 0 [] rfl rfl (⟨by omega, by intro j hj; omega⟩) (by decide) trivial (by repeat' first | exact True.intro | exact rfl | exact ⟨rfl, rfl⟩ | refine And.intro ?_ ?_) fun n1 k hI1 => ?_
          obtain ⟨hn1, hv1⟩ := hI1
          refine AWPD.seq fun K17 hK17 => ?_
          refine AWPD.seq fun K18 hK18 => ?_
          -- region 11
          refine AWPD.keep [0, 3, 4] rfl ?_
          refine AWPD.region tabOK rfl ?_
          repeat refine And.intro (by first | exact fun h => h | exact fun _ => rfl | (intro h; rw [h]; rfl) | omega | (intros; (try dsimp only [Ty.T, Ty.size]); (try simp only [castL_self, Int.toNat_natCast, Int.toNat_zero, Int.toNat_one, true_and, List.length_append, List.length_set, List.length_drop, List.length_take, List.length_replicate, List.length_cons, List.length_nil, Nat.zero_add, Nat.mul_one]); omega) | decide | (intros; simp_all; done) | (intros; simp_all; omega)) ?_
          refine hK18 _ _ ?_
          clear hK18
          first | refine AWPD.condP rfl (fun h4 => ?_) (fun h4 => ?_) | refine AWPD.condN rfl (fun h4 => ?_) (fun h4 => ?_) | refine AWPD.condAP rfl (fun h4 => ?_) (fun h4 => ?_) | refine AWPD.condOP rfl (fun h4 => ?_) (fun h4 => ?_) | refine AWPD.condONN rfl (fun h4 => ?_) (fun h4 => ?_) | refine AWPD.condOPN rfl (fun h4 => ?_) (fun h4 => ?_) | refine AWPD.condA rfl (fun h4 => ?_) (fun h4 => ?_) | refine AWPD.condO rfl (fun h4 => ?_) (fun h4 => ?_) | refine AWPD.cond rfl (fun h4 => ?_) (fun h4 => ?_)
          · try dsimp only [Ty.T] at h4
            try simp only [castL_self] at h4
            try simp only [Int.toNat_natCast] at h4
            try simp only [Int.toNat_zero] at h4
            refine AWPD.skip ?_
            refine hK17 _ _ ?_
            clear hK17
            refine AWPD.seq fun K19 hK19 => ?_
            refine AWPD.block ?_
            refine AWPD.seq fun K20 hK20 => ?_
            -- region 13
            refine AWPD.keep [0, 3, 4] rfl ?_
            refine AWPD.region tabOK rfl ?_
            repeat refine And.intro (by first | exact fun h => h | exact fun _ => rfl | (intro h; rw [h]; rfl) | omega | (intros; (try dsimp only [Ty.T, Ty.size]); (try simp only [castL_self, Int.toNat_natCast, Int.toNat_zero, Int.toNat_one, true_and, List.length_append, List.length_set, List.length_drop, List.length_take, List.length_replicate, List.length_cons, List.length_nil, Nat.zero_add, Nat.mul_one]); omega) | decide | (intros; simp_all; done) | (intros; simp_all; omega)) ?_
            refine Exists.intro _ (Exists.intro _ (And.intro (StepD.call (in4_fn _ _ _) rfl rfl rfl) (And.intro rfl (And.intro trivial ?_))))
            refine hK20 _ _ ?_
            clear hK20
            first | refine AWPD.cond rfl (fun h5 => ?_) (fun h5 => ?_)
            · try dsimp only [Ty.T] at h5
              try simp only [castL_self] at h5
              try simp only [Int.toNat_natCast] at h5
              try simp only [Int.toNat_zero] at h5
              have h5 : ¬(0 ≤ (t.getD i []).getD k 0 ∧ (t.getD i []).getD k 0 ≤ 7) := fun hh => by rw [decide_eq_true hh] at h5; cases h5
              refine AWPD.seq fun K21 hK21 => ?_
              -- region 14
              refine AWPD.keep [] rfl ?_
              refine AWPD.region tabOK rfl ?_
              refine hK21 _ _ ?_
              clear hK21
              refine AWPD.ret (And.intro (.inl rfl) ?_)
              -- result 3
              refine RetD.one ?_
              have e := rowG_bad hli (by omega) h5
              exact fitI rfl (by rw [rowsE_bad (by omega) (by omega) (by omega) hv0 (by rw [e]; decide), e])
            · try dsimp only [Ty.T] at h5
              try simp only [castL_self] at h5
              try simp only [Int.toNat_natCast] at h5
              try simp only [Int.toNat_zero] at h5
              have h5 : 0 ≤ (t.getD i []).getD k 0 ∧ (t.getD i []).getD k 0 ≤ 7 := by simpa using h5
              refine AWPD.skip ?_
              refine hK19 _ _ ?_
              clear hK19
              -- region 12
              refine AWPD.keep [0, 3, 4] rfl ?_
              refine AWPD.region tabOK rfl ?_
              repeat refine And.intro (by first | exact fun h => h | exact fun _ => rfl | (intro h; rw [h]; rfl) | omega | (intros; (try dsimp only [Ty.T, Ty.size]); (try simp only [castL_self, Int.toNat_natCast, Int.toNat_zero, Int.toNat_one, true_and, List.length_append, List.length_set, List.length_drop, List.length_take, List.length_replicate, List.length_cons, List.length_nil, Nat.zero_add, Nat.mul_one]); omega) | decide | (intros; simp_all; done) | (intros; simp_all; omega)) ?_
              refine ⟨n1 - 1, k + 1, [], by omega, ⟨by omega, fun j hj => by
                  rcases Nat.lt_or_ge j k with h | h
                  · exact hv1 j h
                  · rw [show j = k by omega]; exact h5⟩, ⟨by decide, rfl⟩, trivial, ?_⟩
              repeat' first | exact True.intro | exact rfl | exact ⟨rfl, rfl⟩ | refine And.intro ?_ ?_
          · try dsimp only [Ty.T] at h4
            try simp only [castL_self] at h4
            try simp only [Int.toNat_natCast] at h4
            try simp only [Int.toNat_zero] at h4
            refine AWPD.exit ?_
            refine hK12 _ _ ?_
            clear hK12
            -- region 7
            refine AWPD.keep [0, 3] rfl ?_
            refine AWPD.region tabOK rfl ?_
            repeat refine And.intro (by first | exact fun h => h | exact fun _ => rfl | (intro h; rw [h]; rfl) | omega | (intros; (try dsimp only [Ty.T, Ty.size]); (try simp only [castL_self, Int.toNat_natCast, Int.toNat_zero, Int.toNat_one, true_and, List.length_append, List.length_set, List.length_drop, List.length_take, List.length_replicate, List.length_cons, List.length_nil, Nat.zero_add, Nat.mul_one]); omega) | decide | (intros; simp_all; done) | (intros; simp_all; omega)) ?_
            refine ⟨n0 - 1, i + 1, [], by omega, ⟨by omega, fun j hj => by
                rcases Nat.lt_or_ge j i with h | h
                · exact hv0 j h
                · rw [show j = i by omega]; exact rowG_ok hli fun c hc => hv1 c (by omega)⟩, ⟨by decide, rfl⟩, trivial, ?_⟩
            repeat' first | exact True.intro | exact rfl | exact ⟨rfl, rfl⟩ | refine And.intro ?_ ?_
      · try dsimp only [Ty.T] at h2
        try simp only [castL_self] at h2
        try simp only [Int.toNat_natCast] at h2
        try simp only [Int.toNat_zero] at h2
        refine AWPD.exit ?_
        refine hK8 _ _ ?_
        clear hK8
        refine AWPD.seq fun K22 hK22 => ?_
        -- region 15
        refine AWPD.keep [] rfl ?_
        refine AWPD.region tabOK rfl ?_
        refine hK22 _ _ ?_
        clear hK22
        refine AWPD.ret (And.intro (.inl rfl) ?_)
        -- result 4
        refine RetD.one ?_
        exact fitI rfl (rowsE_ok (by omega) (by omega) fun j hj => hv0 j (by omega)).symm
theorem rheights_fn (t : List (List Int)) (l : List Int) : LiftsD Tryd.prog 21 [.sl (.sl .int) t, .sl .int l] (.i (heightsE t l)) := by
  refine LiftsD.of_body 37 [.tmp 4] Tryd.func21 rfl Tryd.ntmps21 (by kernel_rfl) rfl rfl fun w0 X0 => ?_
  refine AWPD.seq fun K1 hK1 => ?_
  -- region 0
  refine AWPD.keep [0, 1] rfl ?_
  refine AWPD.region tabOK rfl ?_
  refine hK1 _ _ ?_
  clear hK1
  refine AWPD.seq fun K2 hK2 => ?_
  -- region 1
  refine AWPD.keep [0, 1] rfl ?_
  refine AWPD.region tabOK rfl ?_
  refine Exists.intro _ (Exists.intro _ (And.intro (StepD.call (rrows_fn _) rfl rfl rfl) (And.intro rfl (And.intro trivial ?_))))
  refine hK2 _ _ ?_
  clear hK2
  refine AWPD.seq fun K3 hK3 => ?_
  have tail3 : ∀ (fr : DF) (e0 : Int), keepF fr [1, 5] [] = some [(5, .i e0), (1, .sl .int l)] → (HInv t l 0 e0) → K3 fr [] := by
    intro fr e0 hkf hs
    refine hK3 fr [] (AWPD.keep [1, 5] hkf ?_)
    clear hkf hK3
    refine AWPD.seq fun K4 hK4 => ?_
    refine AWPD.seq fun K5 hK5 => ?_
    -- region 4
    refine AWPD.keep [1, 5] rfl ?_
    refine AWPD.region tabOK rfl ?_
    refine hK5 _ _ ?_
    clear hK5
    refine AWPD.block ?_
    -- LOOP 0 live [1, 5, 6] changed [5, 6]
    refine AWPD.loopK (σ := Nat × Int) [1] (fun z base => (5, .i z.2) :: (6, .i (z.1 : Int)) :: base) (fun _ => []) (fun n z => n + z.1 = l.length ∧ HInv t l z.1 z.2) l.length (0, e0) [] rfl rfl (⟨by omega, hs⟩) (by decide) trivial (by repeat' first | exact True.intro | exact rfl | exact ⟨rfl, rfl⟩ | refine And.intro ?_ ?_) fun n0 z hI0 => ?_
    obtain ⟨i, e⟩ := z
    obtain ⟨hn0, hI0b⟩ := hI0
    dsimp only at hn0 hI0b ⊢
    refine AWPD.seq fun K6 hK6 => ?_
    refine AWPD.seq fun K7 hK7 => ?_
    -- region 5
    refine AWPD.keep [1, 5, 6] rfl ?_
    refine AWPD.region tabOK rfl ?_
    repeat refine And.intro (by first | (intro hg; have := (rows_good (by simpa using hg)).some; omega) | exact fun h => h | exact fun _ => rfl | (intro h; rw [h]; rfl) | omega | (intros; (try dsimp only [Ty.T, Ty.size]); (try simp only [castL_self, Int.toNat_natCast, Int.toNat_zero, Int.toNat_one, true_and, List.length_append, List.length_set, List.length_drop, List.length_take, List.length_replicate, List.length_cons, List.length_nil, Nat.zero_add, Nat.mul_one]); omega) | decide | (intros; simp_all; done) | (intros; simp_all; omega)) ?_
    refine hK7 _ _ ?_
    clear hK7
    first | refine AWPD.condP rfl (fun h1 => ?_) (fun h1 => ?_) | refine AWPD.condN rfl (fun h1 => ?_) (fun h1 => ?_) | refine AWPD.condAP rfl (fun h1 => ?_) (fun h1 => ?_) | refine AWPD.condOP rfl (fun h1 => ?_) (fun h1 => ?_) | refine AWPD.condONN rfl (fun h1 => ?_) (fun h1 => ?_) | refine AWPD.condOPN rfl (fun h1 => ?_) (fun h1 => ?_) | refine AWPD.condA rfl (fun h1 => ?_) (fun h1 => ?_) | refine AWPD.condO rfl (fun h1 => ?_) (fun h1 => ?_) | refine AWPD.cond rfl (fun h1 => ?_) (fun h1 => ?_)
    · try dsimp only [Ty.T] at h1
      try simp only [castL_self] at h1
      try simp only [Int.toNat_natCast] at h1
      try simp only [Int.toNat_zero] at h1
      have he0 : e = 0 := h1.2
      have hc3 := hI0b.cols he0
      have hil : i < l.length := by omega
      refine AWPD.skip ?_
      refine hK6 _ _ ?_
      clear hK6
      refine AWPD.seq fun K8 hK8 => ?_
      refine AWPD.block ?_
      refine AWPD.seq fun K9 hK9 => ?_
      -- region 7
      refine AWPD.keep [1, 5, 6] rfl ?_
      refine AWPD.region tabOK rfl ?_
      repeat refine And.intro (by first | (intro hg; have := (rows_good (by simpa using hg)).some; omega) | exact fun h => h | exact fun _ => rfl | (intro h; rw [h]; rfl) | omega | (intros; (try dsimp only [Ty.T, Ty.size]); (try simp only [castL_self, Int.toNat_natCast, Int.toNat_zero, Int.toNat_one, true_and, List.length_append, List.length_set, List.length_drop, List.length_take, List.length_replicate, List.length_cons, List.length_nil, Nat.zero_add, Nat.mul_one]); omega) | decide | (intros; simp_all; done) | (intros; simp_all; omega)) ?_
      refine Exists.intro _ (Exists.intro _ (And.intro (StepD.call (in4_fn _ _ _) rfl rfl rfl) (And.intro rfl (And.intro trivial ?_))))
      refine hK9 _ _ ?_
      clear hK9
      first | refine AWPD.cond rfl (fun h2 => ?_) (fun h2 => ?_)
      · try dsimp only [Ty.T] at h2
        try simp only [castL_self] at h2
        try simp only [Int.toNat_natCast] at h2
        try simp only [Int.toNat_zero] at h2
        have h2 : ¬(0 ≤ l.getD i 0 ∧ l.getD i 0 ≤ 3) := fun hh => by rw [decide_eq_true hh] at h2; cases h2
        -- region 8
        refine AWPD.keep [1, 6] rfl ?_
        refine AWPD.region tabOK rfl ?_
        refine hK8 _ _ ?_
        clear hK8
        -- region 6
        refine AWPD.keep [1, 5, 6] rfl ?_
        refine AWPD.region tabOK rfl ?_
        repeat refine And.intro (by first | (intro hg; have := (rows_good (by simpa using hg)).some; omega) | exact fun h => h | exact fun _ => rfl | (intro h; rw [h]; rfl) | omega | (intros; (try dsimp only [Ty.T, Ty.size]); (try simp only [castL_self, Int.toNat_natCast, Int.toNat_zero, Int.toNat_one, true_and, List.length_append, List.length_set, List.length_drop, List.length_take, List.length_replicate, List.length_cons, List.length_nil, Nat.zero_add, Nat.mul_one]); omega) | decide | (intros; simp_all; done) | (intros; simp_all; omega)) ?_
        refine ⟨n0 - 1, (i + 1, 1), [], by omega, ⟨by omega, hI0b.bad he0 hil h2⟩, ⟨by decide, rfl⟩, trivial, ?_⟩
        repeat' first | exact True.intro | exact rfl | exact ⟨rfl, rfl⟩ | refine And.intro ?_ ?_
      · try dsimp only [Ty.T] at h2
        try simp only [castL_self] at h2
        try simp only [Int.toNat_natCast] at h2
        try simp only [Int.toNat_zero] at h2
        have h2 : 0 ≤ l.getD i 0 ∧ l.getD i 0 ≤ 3 := by simpa using h2
        refine AWPD.skip ?_
        refine hK8 _ _ ?_
        clear hK8
        -- region 6
        refine AWPD.keep [1, 5, 6] rfl ?_
        refine AWPD.region tabOK rfl ?_
        repeat refine And.intro (by first | (intro hg; have := (rows_good (by simpa using hg)).some; omega) | exact fun h => h | exact fun _ => rfl | (intro h; rw [h]; rfl) | omega | (intros; (try dsimp only [Ty.T, Ty.size]); (try simp only [castL_self, Int.toNat_natCast, Int.toNat_zero, Int.toNat_one, true_and, List.length_append, List.length_set, List.length_drop, List.length_take, List.length_replicate, List.length_cons, List.length_nil, Nat.zero_add, Nat.mul_one]); omega) | decide | (intros; simp_all; done) | (intros; simp_all; omega)) ?_
        refine ⟨n0 - 1, (i + 1, e), [], by omega, ⟨by omega, hI0b.next he0 h2⟩, ⟨by decide, rfl⟩, trivial, ?_⟩
        repeat' first | exact True.intro | exact rfl | exact ⟨rfl, rfl⟩ | refine And.intro ?_ ?_
    · try dsimp only [Ty.T] at h1
      try simp only [castL_self] at h1
      try simp only [Int.toNat_natCast] at h1
      try simp only [Int.toNat_zero] at h1
      refine AWPD.exit ?_
      refine hK4 _ _ ?_
      clear hK4
      refine AWPD.seq fun K10 hK10 => ?_
      -- region 9
      refine AWPD.keep [5] rfl ?_
      refine AWPD.region tabOK rfl ?_
      refine hK10 _ _ ?_
      clear hK10
      refine AWPD.ret (And.intro (.inl rfl) ?_)
      -- result 0
      refine RetD.one ?_
      exact fitI rfl (hI0b.done fun hh => h1 ⟨by omega, hh.2⟩)
  clear hK3
  refine AWPD.seq fun K11 hK11 => ?_
  -- region 2
  refine AWPD.keep [0, 1, 5] rfl ?_
  refine AWPD.region tabOK rfl ?_
  repeat refine And.intro (by first | (intro hg; have := (rows_good (by simpa using hg)).some; omega) | exact fun h => h | exact fun _ => rfl | (intro h; rw [h]; rfl) | omega | (intros; (try dsimp only [Ty.T, Ty.size]); (try simp only [castL_self, Int.toNat_natCast, Int.toNat_zero, Int.toNat_one, true_and, List.length_append, List.length_set, List.length_drop, List.length_take, List.length_replicate, List.length_cons, List.length_nil, Nat.zero_add, Nat.mul_one]); omega) | decide | (intros; simp_all; done) | (intros; simp_all; omega)) ?_
  refine hK11 _ _ ?_
  clear hK11
  first | refine AWPD.condP rfl (fun h0 => ?_) (fun h0 => ?_) | refine AWPD.condN rfl (fun h0 => ?_) (fun h0 => ?_) | refine AWPD.condAP rfl (fun h0 => ?_) (fun h0 => ?_) | refine AWPD.condOP rfl (fun h0 => ?_) (fun h0 => ?_) | refine AWPD.condONN rfl (fun h0 => ?_) (fun h0 => ?_) | refine AWPD.condOPN rfl (fun h0 => ?_) (fun h0 => ?_) | refine AWPD.condA rfl (fun h0 => ?_) (fun h0 => ?_) | refine AWPD.condO rfl (fun h0 => ?_) (fun h0 => ?_) | refine AWPD.cond rfl (fun h0 => ?_) (fun h0 => ?_)
  · try dsimp only [Ty.T] at h0
    try simp only [castL_self] at h0
    try simp only [Int.toNat_natCast] at h0
    try simp only [Int.toNat_zero] at h0
    have h0 : rowsE t = 0 ∧ l.length ≠ (t.getD 0 []).length := ⟨h0.1, by omega⟩
    -- region 3
    refine AWPD.keep [1] rfl ?_
    refine AWPD.region tabOK rfl ?_
    exact tail3 _ _ rfl (.startT h0)
  · try dsimp only [Ty.T] at h0
    try simp only [castL_self] at h0
    try simp only [Int.toNat_natCast] at h0
    try simp only [Int.toNat_zero] at h0
    have h0 : ¬(rowsE t = 0 ∧ l.length ≠ (t.getD 0 []).length) := fun hh => h0 ⟨hh.1, by omega⟩
    refine AWPD.skip ?_
    exact tail3 _ _ rfl (.startF h0)
theorem rblur_fn (t : List (List Int)) (hs : List Int) (g : HeightsG t hs) : LiftsD Tryd.prog 22 [.sl (.sl .int) t, .sl .int hs] (.sl (.sl .int) (blurT t hs)) := by
  have gr := g.rows
  have gf := gr.few
  have gc := gr.cols
  have gl := g.len
  have hhr := g.in_
  refine LiftsD.of_body 45 [.tmp 4] Tryd.func22 rfl Tryd.ntmps22 (by kernel_rfl) rfl rfl fun w0 X0 => ?_
  refine AWPD.seq fun K1 hK1 => ?_
  -- region 0
  refine AWPD.keep [0, 1] rfl ?_
  refine AWPD.region tabOK rfl ?_
  refine hK1 _ _ ?_
  clear hK1
  refine AWPD.seq fun K2 hK2 => ?_
  -- region 1
  refine AWPD.keep [0, 1] rfl ?_
  refine AWPD.region tabOK rfl ?_
  refine hK2 _ _ ?_
  clear hK2
  refine AWPD.seq fun K3 hK3 => ?_
  refine AWPD.seq fun K4 hK4 => ?_
  -- region 2
  refine AWPD.keep [0, 1, 5] rfl ?_
  refine AWPD.region tabOK rfl ?_
  refine hK4 _ _ ?_
  clear hK4
  refine AWPD.block ?_
  -- LOOP 0 live [0, 1, 5, 6] changed [5, 6]
  refine AWPD.nilRow 5 22 (.sl .int) rfl (by decide) ?_
  refine AWPD.loopK (σ := Nat) [0, 1] (fun i base => (5, .ob 0) :: (6, .i (i : Int)) :: base) (fun i => [.row 22 (.sl .int) (blurTo t hs i)]) (fun n i => n + i = t.length) (t.length) 0 [0] rfl rfl (by omega) (by decide) ⟨⟨rfl, rfl, rfl⟩, trivial⟩ (by repeat' first | exact True.intro | exact rfl | exact ⟨rfl, rfl⟩ | refine And.intro ?_ ?_) fun n0 i hI0 => ?_
  have hn0 := hI0
  refine AWPD.seq fun K5 hK5 => ?_
  refine AWPD.seq fun K6 hK6 => ?_
  -- region 3
  refine AWPD.keep [0, 1, 5, 6] rfl ?_
  refine AWPD.region tabOK rfl ?_
  refine hK6 _ _ ?_
  clear hK6
  first | refine AWPD.condP rfl (fun h0 => ?_) (fun h0 => ?_) | refine AWPD.condN rfl (fun h0 => ?_) (fun h0 => ?_) | refine AWPD.condAP rfl (fun h0 => ?_) (fun h0 => ?_) | refine AWPD.condOP rfl (fun h0 => ?_) (fun h0 => ?_) | refine AWPD.condONN rfl (fun h0 => ?_) (fun h0 => ?_) | refine AWPD.condOPN rfl (fun h0 => ?_) (fun h0 => ?_) | refine AWPD.condA rfl (fun h0 => ?_) (fun h0 => ?_) | refine AWPD.condO rfl (fun h0 => ?_) (fun h0 => ?_) | refine AWPD.cond rfl (fun h0 => ?_) (fun h0 => ?_)
  · try dsimp only [Ty.T] at h0
    try simp only [castL_self] at h0
    try simp only [Int.toNat_natCast] at h0
    try simp only [Int.toNat_zero] at h0
    have hil : i < t.length := by omega
    have hli := gr.len i hil
    have hbl := blurTo_len t hs i
    refine AWPD.skip ?_
    refine hK5 _ _ ?_
    clear hK5
    refine AWPD.seq fun K7 hK7 => ?_
    refine AWPD.block ?_
    refine AWPD.seq fun K8 hK8 => ?_
    -- region 5
    refine AWPD.keep [0, 1, 5, 6] rfl ?_
    refine AWPD.region tabOK rfl ?_
    refine hK8 _ _ ?_
    clear hK8
    refine AWPD.seq fun K9 hK9 => ?_
    refine AWPD.seq fun K10 hK10 => ?_
    -- region 6
    refine AWPD.keep [0, 1, 5, 6, 7] rfl ?_
    refine AWPD.region tabOK rfl ?_
    refine hK10 _ _ ?_
    clear hK10
    refine AWPD.block ?_
    -- LOOP 1 live [0, 1, 5, 6, 7, 8] changed [7, 8]
    refine AWPD.nilRow 7 3 .int rfl (by decide) ?_
    refine AWPD.loopK (σ := Nat) [0, 1, 5, 6] (fun k base => (7, .ob 1) :: (8, .i (k : Int)) :: base) (fun k => [.row 22 (.sl .int) (blurTo t hs i), .row 3 .int (blurQ (t.getD i []) hs k)]) (fun n k => n + k = (t.getD i []).length) ((t.getD i []).length) 0 [0, 1] rfl rfl (by omega) (by decide) ⟨⟨rfl, rfl, rfl⟩, ⟨rfl, rfl, rfl⟩, trivial⟩ (by repeat' first | exact True.intro | exact rfl | exact ⟨rfl, rfl⟩ | refine And.intro ?_ ?_) fun n1 k hI1 => ?_
    have hn1 := hI1
    refine AWPD.seq fun K11 hK11 => ?_
    refine AWPD.seq fun K12 hK12 => ?_
    -- region 7
    refine AWPD.keep [0, 1, 5, 6, 7, 8] rfl ?_
    refine AWPD.region tabOK rfl ?_
    repeat refine And.intro (by first | exact fun h => h | exact fun _ => rfl | (intro h; rw [h]; rfl) | omega | (intros; (try dsimp only [Ty.T, Ty.size]); (try simp only [castL_self, Int.toNat_natCast, Int.toNat_zero, Int.toNat_one, true_and, List.length_append, List.length_set, List.length_drop, List.length_take, List.length_replicate, List.length_cons, List.length_nil, Nat.zero_add, Nat.mul_one]); omega) | decide | (intros; simp_all; done) | (intros; simp_all; omega)) ?_
    refine hK12 _ _ ?_
    clear hK12
    first | refine AWPD.condP rfl (fun h1 => ?_) (fun h1 => ?_) | refine AWPD.condN rfl (fun h1 => ?_) (fun h1 => ?_) | refine AWPD.condAP rfl (fun h1 => ?_) (fun h1 => ?_) | refine AWPD.condOP rfl (fun h1 => ?_) (fun h1 => ?_) | refine AWPD.condONN rfl (fun h1 => ?_) (fun h1 => ?_) | refine AWPD.condOPN rfl (fun h1 => ?_) (fun h1 => ?_) | refine AWPD.condA rfl (fun h1 => ?_) (fun h1 => ?_) | refine AWPD.condO rfl (fun h1 => ?_) (fun h1 => ?_) | refine AWPD.cond rfl (fun h1 => ?_) (fun h1 => ?_)
    · try dsimp only [Ty.T] at h1
      try simp only [castL_self] at h1
      try simp only [Int.toNat_natCast] at h1
      try simp only [Int.toNat_zero] at h1
      have hkl : k < (t.getD i []).length := by omega
      have hki := gr.in_ i hil k (by omega)
      have hkh := hhr k (by omega)
      have hpp := powN_pos (hs.getD k 0).toNat
      have hql := blurQ_len (t.getD i []) hs k
      refine AWPD.skip ?_
      refine hK11 _ _ ?_
      clear hK11
      refine AWPD.seq fun K13 hK13 => ?_
      refine AWPD.block ?_
      -- region 9
      refine AWPD.keep [0, 1, 5, 6, 7, 8] rfl ?_
      refine AWPD.draw tabOK [15] rfl (by kernel_rfl) ?_
      repeat refine And.intro (by first | exact fun h => h | exact fun _ => rfl | (intro h; rw [h]; rfl) | omega | (intros; (try dsimp only [Ty.T, Ty.size]); (try simp only [castL_self, Int.toNat_natCast, Int.toNat_zero, Int.toNat_one, true_and, List.length_append, List.length_set, List.length_drop, List.length_take, List.length_replicate, List.length_cons, List.length_nil, Nat.zero_add, Nat.mul_one]); omega) | decide | (intros; simp_all; done) | (intros; simp_all; omega)) ?_
      refine Exists.intro _ (Exists.intro _ (And.intro (StepD.call (pow2_fn (hs.getD k 0) (by omega)) rfl rfl rfl) (And.intro rfl (And.intro rfl ?_))))
      repeat refine And.intro (by first | exact fun h => h | exact fun _ => rfl | (intro h; rw [h]; rfl) | omega | (intros; (try dsimp only [Ty.T, Ty.size]); (try simp only [castL_self, Int.toNat_natCast, Int.toNat_zero, Int.toNat_one, true_and, List.length_append, List.length_set, List.length_drop, List.length_take, List.length_replicate, List.length_cons, List.length_nil, Nat.zero_add, Nat.mul_one]); omega) | decide | (intros; simp_all; done) | (intros; simp_all; omega)) ?_
      refine hK13 _ _ ?_
      clear hK13
      -- region 8
      refine AWPD.keep [0, 1, 5, 6, 7, 8] rfl ?_
      refine AWPD.region tabOK rfl ?_
      repeat refine And.intro (by first | exact fun h => h | exact fun _ => rfl | (intro h; rw [h]; rfl) | omega | (intros; (try dsimp only [Ty.T, Ty.size]); (try simp only [castL_self, Int.toNat_natCast, Int.toNat_zero, Int.toNat_one, true_and, List.length_append, List.length_set, List.length_drop, List.length_take, List.length_replicate, List.length_cons, List.length_nil, Nat.zero_add, Nat.mul_one]); omega) | decide | (intros; simp_all; done) | (intros; simp_all; omega)) ?_
      refine ⟨n1 - 1, k + 1, [0, 2], by omega, by omega, ⟨by decide, rfl⟩, ⟨⟨rfl, rfl, rfl⟩, ⟨rfl, rfl, blurQ_snoc (t.getD i []) hs k⟩, trivial⟩, ?_⟩
      repeat' first | exact True.intro | exact rfl | exact ⟨rfl, rfl⟩ | refine And.intro ?_ ?_
    · try dsimp only [Ty.T] at h1
      try simp only [castL_self] at h1
      try simp only [Int.toNat_natCast] at h1
      try simp only [Int.toNat_zero] at h1
      have hke : k = (t.getD i []).length := by omega
      subst hke
      refine AWPD.exit ?_
      refine hK9 _ _ ?_
      clear hK9
      -- region 10
      refine AWPD.freeze 7 rfl rfl rfl ?_
      refine AWPD.keep [0, 1, 5, 6, 7] rfl ?_
      refine AWPD.region tabOK rfl ?_
      repeat refine And.intro (by first | exact fun h => h | exact fun _ => rfl | (intro h; rw [h]; rfl) | omega | (intros; (try dsimp only [Ty.T, Ty.size]); (try simp only [castL_self, Int.toNat_natCast, Int.toNat_zero, Int.toNat_one, true_and, List.length_append, List.length_set, List.length_drop, List.length_take, List.length_replicate, List.length_cons, List.length_nil, Nat.zero_add, Nat.mul_one]); omega) | decide | (intros; simp_all; done) | (intros; simp_all; omega)) ?_
      refine hK7 _ _ ?_
      clear hK7
      -- region 4
      refine AWPD.keep [0, 1, 5, 6] rfl ?_
      refine AWPD.region tabOK rfl ?_
      repeat refine And.intro (by first | exact fun h => h | exact fun _ => rfl | (intro h; rw [h]; rfl) | omega | (intros; (try dsimp only [Ty.T, Ty.size]); (try simp only [castL_self, Int.toNat_natCast, Int.toNat_zero, Int.toNat_one, true_and, List.length_append, List.length_set, List.length_drop, List.length_take, List.length_replicate, List.length_cons, List.length_nil, Nat.zero_add, Nat.mul_one]); omega) | decide | (intros; simp_all; done) | (intros; simp_all; omega)) ?_
      refine ⟨n0 - 1, i + 1, [2], by omega, by omega, ⟨by decide, rfl⟩, ⟨⟨rfl, rfl, blurTo_snoc t hs i⟩, trivial⟩, ?_⟩
      repeat' first | exact True.intro | exact rfl | exact ⟨rfl, rfl⟩ | refine And.intro ?_ ?_
  · try dsimp only [Ty.T] at h0
    try simp only [castL_self] at h0
    try simp only [Int.toNat_natCast] at h0
    try simp only [Int.toNat_zero] at h0
    have hit : i = t.length := by omega
    refine AWPD.exit ?_
    refine hK3 _ _ ?_
    clear hK3
    refine AWPD.seq fun K14 hK14 => ?_
    -- region 11
    refine AWPD.keep [5] rfl ?_
    refine AWPD.region tabOK rfl ?_
    refine hK14 _ _ ?_
    clear hK14
    refine AWPD.ret (And.intro (.inl rfl) ?_)
    -- result 0
    refine RetD.one ?_
    subst hit
    exact fitR rfl rfl rfl
theorem rsame_fn (a b : List Int) (hl : a.length ≤ b.length) (hb : b.length ≤ 1000000) : LiftsD Tryd.prog 40 [.sl .int a, .sl .int b] (.b (sameB a b)) := by
  refine LiftsD.of_body 21 [.tmp 4] Tryd.func40 rfl Tryd.ntmps40 (by kernel_rfl) rfl rfl fun w0 X0 => ?_
  refine AWPD.seq fun K1 hK1 => ?_
  -- region 0
  refine AWPD.keep [0, 1] rfl ?_
  refine AWPD.region tabOK rfl ?_
  refine hK1 _ _ ?_
  clear hK1
  refine AWPD.seq fun K2 hK2 => ?_
  refine AWPD.seq fun K3 hK3 => ?_
  -- region 1
  refine AWPD.keep [0, 1] rfl ?_
  refine AWPD.region tabOK rfl ?_
  refine hK3 _ _ ?_
  clear hK3
  refine AWPD.block ?_
  -- LOOP 0 live [0, 1, 5] changed [5]
  refine AWPD.loopK (σ := Nat) [0, 1] (fun i base => (5, .i (i : Int)) :: base) (fun _ => []) (fun n i => n + i = a.length ∧ ∀ j, j < i → a.getD j 0 = b.getD j 0) (a.length) 0 [] rfl rfl (⟨by omega, by intro j hj; omega⟩) (by decide) trivial (by repeat' first | exact True.intro | exact rfl | exact ⟨rfl, rfl⟩ | refine And.intro ?_ ?_) fun n0 i hI0 => ?_
  obtain ⟨hn0, hv0⟩ := hI0
  refine AWPD.seq fun K4 hK4 => ?_
  refine AWPD.seq fun K5 hK5 => ?_
  -- region 2
  refine AWPD.keep [0, 1, 5] rfl ?_
  refine AWPD.region tabOK rfl ?_
  refine hK5 _ _ ?_
  clear hK5
  first | refine AWPD.condP rfl (fun h0 => ?_) (fun h0 => ?_) | refine AWPD.condN rfl (fun h0 => ?_) (fun h0 => ?_) | refine AWPD.condAP rfl (fun h0 => ?_) (fun h0 => ?_) | refine AWPD.condOP rfl (fun h0 => ?_) (fun h0 => ?_) | refine AWPD.condONN rfl (fun h0 => ?_) (fun h0 => ?_) | refine AWPD.condOPN rfl (fun h0 => ?_) (fun h0 => ?_) | refine AWPD.condA rfl (fun h0 => ?_) (fun h0 => ?_) | refine AWPD.condO rfl (fun h0 => ?_) (fun h0 => ?_) | refine AWPD.cond rfl (fun h0 => ?_) (fun h0 => ?_)
  · try dsimp only [Ty.T] at h0
    try simp only [castL_self] at h0
    try simp only [Int.toNat_natCast] at h0
    try simp only [Int.toNat_zero] at h0
    refine AWPD.skip ?_
    refine hK4 _ _ ?_
    clear hK4
    refine AWPD.seq fun K6 hK6 => ?_
    refine AWPD.block ?_
    refine AWPD.seq fun K7 hK7 => ?_
    -- region 4
    refine AWPD.keep [0, 1, 5] rfl ?_
    refine AWPD.draw tabOK [] rfl (by kernel_rfl) ?_
    repeat refine And.intro (by first | exact fun h => h | exact fun _ => rfl | (intro h; rw [h]; rfl) | omega | (intros; (try dsimp only [Ty.T, Ty.size]); (try simp only [castL_self, Int.toNat_natCast, Int.toNat_zero, Int.toNat_one, true_and, List.length_append, List.length_set, List.length_drop, List.length_take, List.length_replicate, List.length_cons, List.length_nil, Nat.zero_add, Nat.mul_one]); omega) | decide | (intros; simp_all; done) | (intros; simp_all; omega)) ?_
    refine hK7 _ _ ?_
    clear hK7
    first | refine AWPD.condP rfl (fun h1 => ?_) (fun h1 => ?_) | refine AWPD.condN rfl (fun h1 => ?_) (fun h1 => ?_) | refine AWPD.condAP rfl (fun h1 => ?_) (fun h1 => ?_) | refine AWPD.condOP rfl (fun h1 => ?_) (fun h1 => ?_) | refine AWPD.condONN rfl (fun h1 => ?_) (fun h1 => ?_) | refine AWPD.condOPN rfl (fun h1 => ?_) (fun h1 => ?_) | refine AWPD.condA rfl (fun h1 => ?_) (fun h1 => ?_) | refine AWPD.condO rfl (fun h1 => ?_) (fun h1 => ?_) | refine AWPD.cond rfl (fun h1 => ?_) (fun h1 => ?_)
    · try dsimp only [Ty.T] at h1
      try simp only [castL_self] at h1
      try simp only [Int.toNat_natCast] at h1
      try simp only [Int.toNat_zero] at h1
      have h1 : ¬a.getD i 0 = b.getD i 0 := h1
      refine AWPD.seq fun K8 hK8 => ?_
      -- region 5
      refine AWPD.keep [] rfl ?_
      refine AWPD.region tabOK rfl ?_
      refine hK8 _ _ ?_
      clear hK8
      refine AWPD.ret (And.intro (.inl rfl) ?_)
      -- result 0
      refine RetD.one ?_
      exact fitB rfl (sameB_no (by omega) h1)
    · try dsimp only [Ty.T] at h1
      try simp only [castL_self] at h1
      try simp only [Int.toNat_natCast] at h1
      try simp only [Int.toNat_zero] at h1
      have h1 : a.getD i 0 = b.getD i 0 := by omega
      refine AWPD.skip ?_
      refine hK6 _ _ ?_
      clear hK6
      -- region 3
      refine AWPD.keep [0, 1, 5] rfl ?_
      refine AWPD.region tabOK rfl ?_
      repeat refine And.intro (by first | exact fun h => h | exact fun _ => rfl | (intro h; rw [h]; rfl) | omega | (intros; (try dsimp only [Ty.T, Ty.size]); (try simp only [castL_self, Int.toNat_natCast, Int.toNat_zero, Int.toNat_one, true_and, List.length_append, List.length_set, List.length_drop, List.length_take, List.length_replicate, List.length_cons, List.length_nil, Nat.zero_add, Nat.mul_one]); omega) | decide | (intros; simp_all; done) | (intros; simp_all; omega)) ?_
      refine ⟨n0 - 1, i + 1, [], by omega, ⟨by omega, fun j hj => by
          rcases Nat.lt_or_ge j i with h | h
          · exact hv0 j h
          · rw [show j = i by omega]; exact h1⟩, ⟨by decide, rfl⟩, trivial, ?_⟩
      repeat' first | exact True.intro | exact rfl | exact ⟨rfl, rfl⟩ | refine And.intro ?_ ?_
  · try dsimp only [Ty.T] at h0
    try simp only [castL_self] at h0
    try simp only [Int.toNat_natCast] at h0
    try simp only [Int.toNat_zero] at h0
    refine AWPD.exit ?_
    refine hK2 _ _ ?_
    clear hK2
    refine AWPD.seq fun K9 hK9 => ?_
    -- region 6
    refine AWPD.keep [] rfl ?_
    refine AWPD.region tabOK rfl ?_
    refine hK9 _ _ ?_
    clear hK9
    refine AWPD.ret (And.intro (.inl rfl) ?_)
    -- result 1
    refine RetD.one ?_
    exact fitB rfl (sameB_iff.2 fun j hj => hv0 j (by omega)).symm
theorem rfew_fn (t : List (List Int)) (hs : List Int) (g : HeightsG t hs) : LiftsD Tryd.prog 23 [.sl (.sl .int) t, .sl .int hs] (.i (fewV t hs : Int)) := by
  have gr := g.rows
  have gf := gr.few
  have gc := gr.cols
  have hTl : (blurT t hs).length = t.length := blurTo_len t hs t.length
  refine LiftsD.of_body 43 [.tmp 4] Tryd.func23 rfl Tryd.ntmps23 (by kernel_rfl) rfl rfl fun w0 X0 => ?_
  refine AWPD.seq fun K1 hK1 => ?_
  -- region 0
  refine AWPD.keep [0, 1] rfl ?_
  refine AWPD.region tabOK rfl ?_
  refine hK1 _ _ ?_
  clear hK1
  refine AWPD.seq fun K2 hK2 => ?_
  -- region 1
  refine AWPD.keep [0, 1] rfl ?_
  refine AWPD.region tabOK rfl ?_
  refine Exists.intro _ (Exists.intro _ (And.intro (StepD.call (rblur_fn _ _ (by assumption)) rfl rfl rfl) (And.intro rfl (And.intro trivial ?_))))
  refine hK2 _ _ ?_
  clear hK2
  refine AWPD.seq fun K3 hK3 => ?_
  -- region 2
  refine AWPD.keep [0, 5] rfl ?_
  refine AWPD.region tabOK rfl ?_
  refine hK3 _ _ ?_
  clear hK3
  refine AWPD.seq fun K4 hK4 => ?_
  refine AWPD.seq fun K5 hK5 => ?_
  -- region 3
  refine AWPD.keep [5, 6] rfl ?_
  refine AWPD.region tabOK rfl ?_
  refine hK5 _ _ ?_
  clear hK5
  refine AWPD.block ?_
  -- LOOP 0 live [5, 6, 7] changed [6, 7]
  refine AWPD.loopK (σ := Nat) [5] (fun i base => (6, .i (fewTo t hs i : Int)) :: (7, .i (i : Int)) :: base) (fun _ => []) (fun n i => n + i = (blurT t hs).length) ((blurT t hs).length) 0 [] rfl rfl (by omega) (by decide) trivial (by repeat' first | exact rfl | exact True.intro | exact rfl | exact ⟨rfl, rfl⟩ | refine And.intro ?_ ?_) fun n0 i hI0 => ?_
  have hn0 := hI0
  refine AWPD.seq fun K6 hK6 => ?_
  refine AWPD.seq fun K7 hK7 => ?_
  -- region 4
  refine AWPD.keep [5, 6, 7] rfl ?_
  refine AWPD.region tabOK rfl ?_
  refine hK7 _ _ ?_
  clear hK7
  first | refine AWPD.condP rfl (fun h0 => ?_) (fun h0 => ?_) | refine AWPD.condN rfl (fun h0 => ?_) (fun h0 => ?_) | refine AWPD.condAP rfl (fun h0 => ?_) (fun h0 => ?_) | refine AWPD.condOP rfl (fun h0 => ?_) (fun h0 => ?_) | refine AWPD.condONN rfl (fun h0 => ?_) (fun h0 => ?_) | refine AWPD.condOPN rfl (fun h0 => ?_) (fun h0 => ?_) | refine AWPD.condA rfl (fun h0 => ?_) (fun h0 => ?_) | refine AWPD.condO rfl (fun h0 => ?_) (fun h0 => ?_) | refine AWPD.cond rfl (fun h0 => ?_) (fun h0 => ?_)
  · try dsimp only [Ty.T] at h0
    try simp only [castL_self] at h0
    try simp only [Int.toNat_natCast] at h0
    try simp only [Int.toNat_zero] at h0
    have hil : i < t.length := by omega
    have hli := gr.len i hil
    have hbi : ((blurT t hs).getD i []).length = (t.getD i []).length := by rw [blurT_get hil]; exact blurQ_len _ _ _
    have hfl := fewTo_le t hs i
    refine AWPD.skip ?_
    refine hK6 _ _ ?_
    clear hK6
    refine AWPD.seq fun K8 hK8 => ?_
    refine AWPD.block ?_
    refine AWPD.seq fun K9 hK9 => ?_
    -- region 6
    refine AWPD.keep [5, 6, 7] rfl ?_
    refine AWPD.region tabOK rfl ?_
    refine hK9 _ _ ?_
    clear hK9
    refine AWPD.seq fun K10 hK10 => ?_
    refine AWPD.seq fun K11 hK11 => ?_
    -- region 7
    refine AWPD.keep [5, 6, 7, 8] rfl ?_
    refine AWPD.region tabOK rfl ?_
    refine hK11 _ _ ?_
    clear hK11
    refine AWPD.block ?_
    -- LOOP 1 live [5, 6, 7, 8, 9] changed [8, 9]
    refine AWPD.loopK (σ := Nat) [5, 6, 7] (fun j base => (8, .i (cntTo t hs (keyAt t hs i) j : Int)) :: (9, .i (j : Int)) :: base) (fun _ => []) (fun n j => n + j = (blurT t hs).length) ((blurT t hs).length) 0 [] rfl rfl (by omega) (by decide) trivial (by repeat' first | exact True.intro | exact rfl | exact ⟨rfl, rfl⟩ | refine And.intro ?_ ?_) fun n1 j hI1 => ?_
    have hn1 := hI1
    refine AWPD.seq fun K12 hK12 => ?_
    refine AWPD.seq fun K13 hK13 => ?_
    -- region 8
    refine AWPD.keep [5, 6, 7, 8, 9] rfl ?_
    refine AWPD.region tabOK rfl ?_
    refine hK13 _ _ ?_
    clear hK13
    first | refine AWPD.condP rfl (fun h1 => ?_) (fun h1 => ?_) | refine AWPD.condN rfl (fun h1 => ?_) (fun h1 => ?_) | refine AWPD.condAP rfl (fun h1 => ?_) (fun h1 => ?_) | refine AWPD.condOP rfl (fun h1 => ?_) (fun h1 => ?_) | refine AWPD.condONN rfl (fun h1 => ?_) (fun h1 => ?_) | refine AWPD.condOPN rfl (fun h1 => ?_) (fun h1 => ?_) | refine AWPD.condA rfl (fun h1 => ?_) (fun h1 => ?_) | refine AWPD.condO rfl (fun h1 => ?_) (fun h1 => ?_) | refine AWPD.cond rfl (fun h1 => ?_) (fun h1 => ?_)
    · try dsimp only [Ty.T] at h1
      try simp only [castL_self] at h1
      try simp only [Int.toNat_natCast] at h1
      try simp only [Int.toNat_zero] at h1
      have hjl : j < t.length := by omega
      have hlj := gr.len j hjl
      have hbj : ((blurT t hs).getD j []).length = (t.getD j []).length := by rw [blurT_get hjl]; exact blurQ_len _ _ _
      have hcl := cntTo_le (t := t) (hs := hs) (q := keyAt t hs i) j
      refine AWPD.skip ?_
      refine hK12 _ _ ?_
      clear hK12
      refine AWPD.seq fun K14 hK14 => ?_
      refine AWPD.block ?_
      refine AWPD.seq fun K15 hK15 => ?_
      -- region 10
      refine AWPD.keep [5, 6, 7, 8, 9] rfl ?_
      refine AWPD.draw tabOK [] rfl (by kernel_rfl) ?_
      repeat refine And.intro (by first | exact fun h => h | exact fun _ => rfl | (intro h; rw [h]; rfl) | omega | (intros; (try dsimp only [Ty.T, Ty.size]); (try simp only [castL_self, Int.toNat_natCast, Int.toNat_zero, Int.toNat_one, true_and, List.length_append, List.length_set, List.length_drop, List.length_take, List.length_replicate, List.length_cons, List.length_nil, Nat.zero_add, Nat.mul_one]); omega) | decide | (intros; simp_all; done) | (intros; simp_all; omega)) ?_
      refine Exists.intro _ (Exists.intro _ (And.intro (StepD.call (rsame_fn ((blurT t hs).getD i []) ((blurT t hs).getD j []) (by omega) (by omega)) rfl rfl rfl) (And.intro rfl (And.intro rfl ?_))))
      refine hK15 _ _ ?_
      clear hK15
      first | refine AWPD.cond rfl (fun h2 => ?_) (fun h2 => ?_)
      · try dsimp only [Ty.T] at h2
        try simp only [castL_self] at h2
        try simp only [Int.toNat_natCast] at h2
        try simp only [Int.toNat_zero] at h2
        have hk := (sameB_key (hs := hs) gr hil hjl).1 h2
        -- region 11
        refine AWPD.keep [5, 6, 7, 8, 9] rfl ?_
        refine AWPD.region tabOK rfl ?_
        repeat refine And.intro (by first | exact fun h => h | exact fun _ => rfl | (intro h; rw [h]; rfl) | omega | (intros; (try dsimp only [Ty.T, Ty.size]); (try simp only [castL_self, Int.toNat_natCast, Int.toNat_zero, Int.toNat_one, true_and, List.length_append, List.length_set, List.length_drop, List.length_take, List.length_replicate, List.length_cons, List.length_nil, Nat.zero_add, Nat.mul_one]); omega) | decide | (intros; simp_all; done) | (intros; simp_all; omega)) ?_
        refine hK14 _ _ ?_
        clear hK14
        -- region 9
        refine AWPD.keep [5, 6, 7, 8, 9] rfl ?_
        refine AWPD.region tabOK rfl ?_
        repeat refine And.intro (by first | exact fun h => h | exact fun _ => rfl | (intro h; rw [h]; rfl) | omega | (intros; (try dsimp only [Ty.T, Ty.size]); (try simp only [castL_self, Int.toNat_natCast, Int.toNat_zero, Int.toNat_one, true_and, List.length_append, List.length_set, List.length_drop, List.length_take, List.length_replicate, List.length_cons, List.length_nil, Nat.zero_add, Nat.mul_one]); omega) | decide | (intros; simp_all; done) | (intros; simp_all; omega)) ?_
        refine ⟨n1 - 1, j + 1, [], by omega, by omega, ⟨by decide, rfl⟩, trivial, ?_⟩
        repeat' first | exact cnt_yes hk | exact cnt_no hk | exact True.intro | exact rfl | exact ⟨rfl, rfl⟩ | refine And.intro ?_ ?_
      · try dsimp only [Ty.T] at h2
        try simp only [castL_self] at h2
        try simp only [Int.toNat_natCast] at h2
        try simp only [Int.toNat_zero] at h2
        have hk : ¬keyAt t hs j = keyAt t hs i := fun hh => by
          have h3 := (sameB_key (hs := hs) gr hil hjl).2 hh
          have h4 : sameB ((blurT t hs).getD i []) ((blurT t hs).getD j []) = false := h2
          rw [h3] at h4
          cases h4
        refine AWPD.skip ?_
        refine hK14 _ _ ?_
        clear hK14
        -- region 9
        refine AWPD.keep [5, 6, 7, 8, 9] rfl ?_
        refine AWPD.region tabOK rfl ?_
        repeat refine And.intro (by first | exact fun h => h | exact fun _ => rfl | (intro h; rw [h]; rfl) | omega | (intros; (try dsimp only [Ty.T, Ty.size]); (try simp only [castL_self, Int.toNat_natCast, Int.toNat_zero, Int.toNat_one, true_and, List.length_append, List.length_set, List.length_drop, List.length_take, List.length_replicate, List.length_cons, List.length_nil, Nat.zero_add, Nat.mul_one]); omega) | decide | (intros; simp_all; done) | (intros; simp_all; omega)) ?_
        refine ⟨n1 - 1, j + 1, [], by omega, by omega, ⟨by decide, rfl⟩, trivial, ?_⟩
        repeat' first | exact cnt_yes hk | exact cnt_no hk | exact True.intro | exact rfl | exact ⟨rfl, rfl⟩ | refine And.intro ?_ ?_
    · try dsimp only [Ty.T] at h1
      try simp only [castL_self] at h1
      try simp only [Int.toNat_natCast] at h1
      try simp only [Int.toNat_zero] at h1
      have hjt : j = t.length := by omega
      refine AWPD.exit ?_
      refine hK10 _ _ ?_
      clear hK10
      refine AWPD.seq fun K16 hK16 => ?_
      -- region 12
      refine AWPD.keep [5, 6, 7, 8] rfl ?_
      refine AWPD.region tabOK rfl ?_
      refine hK16 _ _ ?_
      clear hK16
      first | refine AWPD.condP rfl (fun h3 => ?_) (fun h3 => ?_) | refine AWPD.condN rfl (fun h3 => ?_) (fun h3 => ?_) | refine AWPD.condAP rfl (fun h3 => ?_) (fun h3 => ?_) | refine AWPD.condOP rfl (fun h3 => ?_) (fun h3 => ?_) | refine AWPD.condONN rfl (fun h3 => ?_) (fun h3 => ?_) | refine AWPD.condOPN rfl (fun h3 => ?_) (fun h3 => ?_) | refine AWPD.condA rfl (fun h3 => ?_) (fun h3 => ?_) | refine AWPD.condO rfl (fun h3 => ?_) (fun h3 => ?_) | refine AWPD.cond rfl (fun h3 => ?_) (fun h3 => ?_)
      · try dsimp only [Ty.T] at h3
        try simp only [castL_self] at h3
        try simp only [Int.toNat_natCast] at h3
        try simp only [Int.toNat_zero] at h3
        have hw : cntTo t hs (keyAt t hs i) j < fewTo t hs i := by omega
        -- region 13
        refine AWPD.keep [5, 7, 8] rfl ?_
        refine AWPD.region tabOK rfl ?_
        refine hK8 _ _ ?_
        clear hK8
        -- region 5
        refine AWPD.keep [5, 6, 7] rfl ?_
        refine AWPD.region tabOK rfl ?_
        repeat refine And.intro (by first | exact fun h => h | exact fun _ => rfl | (intro h; rw [h]; rfl) | omega | (intros; (try dsimp only [Ty.T, Ty.size]); (try simp only [castL_self, Int.toNat_natCast, Int.toNat_zero, Int.toNat_one, true_and, List.length_append, List.length_set, List.length_drop, List.length_take, List.length_replicate, List.length_cons, List.length_nil, Nat.zero_add, Nat.mul_one]); omega) | decide | (intros; simp_all; done) | (intros; simp_all; omega)) ?_
        refine ⟨n0 - 1, i + 1, [], by omega, by omega, ⟨by decide, rfl⟩, trivial, ?_⟩
        repeat' first | exact few_yes hjt hw | exact few_no hjt hw | exact True.intro | exact rfl | exact ⟨rfl, rfl⟩ | refine And.intro ?_ ?_
      · try dsimp only [Ty.T] at h3
        try simp only [castL_self] at h3
        try simp only [Int.toNat_natCast] at h3
        try simp only [Int.toNat_zero] at h3
        have hw : ¬cntTo t hs (keyAt t hs i) j < fewTo t hs i := by omega
        refine AWPD.skip ?_
        refine hK8 _ _ ?_
        clear hK8
        -- region 5
        refine AWPD.keep [5, 6, 7] rfl ?_
        refine AWPD.region tabOK rfl ?_
        repeat refine And.intro (by first | exact fun h => h | exact fun _ => rfl | (intro h; rw [h]; rfl) | omega | (intros; (try dsimp only [Ty.T, Ty.size]); (try simp only [castL_self, Int.toNat_natCast, Int.toNat_zero, Int.toNat_one, true_and, List.length_append, List.length_set, List.length_drop, List.length_take, List.length_replicate, List.length_cons, List.length_nil, Nat.zero_add, Nat.mul_one]); omega) | decide | (intros; simp_all; done) | (intros; simp_all; omega)) ?_
        refine ⟨n0 - 1, i + 1, [], by omega, by omega, ⟨by decide, rfl⟩, trivial, ?_⟩
        repeat' first | exact few_yes hjt hw | exact few_no hjt hw | exact True.intro | exact rfl | exact ⟨rfl, rfl⟩ | refine And.intro ?_ ?_
  · try dsimp only [Ty.T] at h0
    try simp only [castL_self] at h0
    try simp only [Int.toNat_natCast] at h0
    try simp only [Int.toNat_zero] at h0
    have hit : i = t.length := by omega
    refine AWPD.exit ?_
    refine hK4 _ _ ?_
    clear hK4
    refine AWPD.seq fun K17 hK17 => ?_
    -- region 14
    refine AWPD.keep [6] rfl ?_
    refine AWPD.region tabOK rfl ?_
    refine hK17 _ _ ?_
    clear hK17
    refine AWPD.ret (And.intro (.inl rfl) ?_)
    -- result 0
    refine RetD.one ?_
    exact fitI rfl (by rw [hit]; rfl)
end Go.Proofs.YtmeacgkhabnjlaaDoor
