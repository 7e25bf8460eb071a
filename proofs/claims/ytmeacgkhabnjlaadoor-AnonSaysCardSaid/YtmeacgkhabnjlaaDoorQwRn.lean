/-
  WALK of the document's lowest heights; and of the laws' Rows.
-/
import Derived.Test.YtmeacgkhabnjlaaDoorQwRm
namespace Go.Proofs.YtmeacgkhabnjlaaDoor
open Go Go.Qw
set_option maxRecDepth 10000
set_option linter.unusedSimpArgs false
set_option linter.unusedVariables false
set_option linter.unusedSectionVars false
set_option maxHeartbeats 2000000


section
variable {t : List (List Int)} {m : Int} {N : Nat}
def goodTo (t : List (List Int)) (m : Int) (N c : Nat) : List (List Int) := ((List.range c).filter (goodC t m N)).map (vec N)
def fL (t : List (List Int)) (m : Int) (N : Nat) : List Nat := (List.range (4 ^ N)).filter (goodC t m N)
def lowTo (t : List (List Int)) (m : Int) (N i : Nat) : List (List Int) := (((fL t m N).take i).filter (isLow t m N)).map (vec N)
theorem goodTo_yes {c : Nat} {v : List Int} (hv : v = vec N c) (h : m ≤ (fewV t (vec N c) : Int)) : goodTo t m N c ++ [v] = goodTo t m N (c + 1) := by
  subst hv
  unfold goodTo
  rw [List.range_succ, List.filter_append, List.map_append, List.filter_cons, if_pos (show goodC t m N c = true from decide_eq_true h)]
  rfl
theorem goodTo_no {c : Nat} (h : ¬m ≤ (fewV t (vec N c) : Int)) : goodTo t m N c = goodTo t m N (c + 1) := by
  unfold goodTo
  rw [List.range_succ, List.filter_append, List.map_append, List.filter_cons, if_neg (show ¬goodC t m N c = true from fun hh => h (of_decide_eq_true hh))]
  simp
theorem goodTo_len : (goodTo t m N (4 ^ N)).length = (fL t m N).length := by simp [goodTo, fL]
theorem goodTo_get {i : Nat} (h : i < (fL t m N).length) : (goodTo t m N (4 ^ N)).getD i [] = vec N ((fL t m N).getD i 0) := by
  show (((fL t m N).map (vec N))).getD i [] = _
  simp [List.getD, h]
theorem fL_len : (fL t m N).length ≤ 4 ^ N := by
  have := List.length_filter_le (goodC t m N) (List.range (4 ^ N))
  rw [List.length_range] at this
  exact this
theorem fL_nodup : (fL t m N).Nodup := List.nodup_range.filter _
theorem fL_in {i : Nat} (h : i < (fL t m N).length) : (fL t m N).getD i 0 < 4 ^ N ∧ goodC t m N ((fL t m N).getD i 0) = true := by
  have hm : (fL t m N).getD i 0 ∈ fL t m N := getD_mem h 0
  have := List.mem_filter.1 hm
  exact ⟨List.mem_range.1 this.1, this.2⟩
theorem fL_at {e : Nat} (h : e < 4 ^ N) (hg : goodC t m N e = true) : ∃ j, j < (fL t m N).length ∧ (fL t m N).getD j 0 = e := by
  have hm : e ∈ fL t m N := List.mem_filter.2 ⟨List.mem_range.2 h, hg⟩
  obtain ⟨j, hj, he⟩ := List.getElem_of_mem hm
  exact ⟨j, hj, by simp [List.getD, hj, he]⟩
theorem fL_one {i j : Nat} (hi : i < (fL t m N).length) (hj : j < (fL t m N).length) (h : (fL t m N).getD j 0 = (fL t m N).getD i 0) : j = i := by
  have hp := List.pairwise_iff_getElem.1 (fL_nodup (t := t) (m := m) (N := N))
  have e1 : (fL t m N)[j] = (fL t m N)[i] := by simpa [List.getD, hi, hj] using h
  rcases Nat.lt_trichotomy i j with hlt | hlt | hlt
  · exact absurd e1.symm (hp i j hi hj hlt)
  · exact hlt.symm
  · exact absurd e1 (hp j i hj hi hlt)
theorem low_iff {i : Nat} (hi : i < (fL t m N).length) : (∀ j, j < (fL t m N).length → ¬(i ≠ j ∧ belowB (vec N ((fL t m N).getD j 0)) (vec N ((fL t m N).getD i 0)) = true)) ↔ isLow t m N ((fL t m N).getD i 0) = true := by
  rw [isLow_iff]
  constructor
  · intro h e he hg hne hb
    obtain ⟨j, hj, rfl⟩ := fL_at he hg
    exact h j hj ⟨fun hij => hne (by rw [hij]), hb⟩
  · rintro h j hj ⟨hne, hb⟩
    have hin := fL_in (t := t) (m := m) (N := N) hj
    exact h _ hin.1 hin.2 (fun e => hne (fL_one hi hj e).symm) hb
theorem lowTo_yes {i : Nat} {v : List Int} (hi : i < (fL t m N).length) (hv : v = vec N ((fL t m N).getD i 0)) (h : isLow t m N ((fL t m N).getD i 0) = true) : lowTo t m N i ++ [v] = lowTo t m N (i + 1) := by
  subst hv
  unfold lowTo
  rw [take_snoc hi 0, List.filter_append, List.map_append, List.filter_cons, if_pos h]
  rfl
theorem lowTo_no {i : Nat} (hi : i < (fL t m N).length) (h : ¬isLow t m N ((fL t m N).getD i 0) = true) : lowTo t m N i = lowTo t m N (i + 1) := by
  unfold lowTo
  rw [take_snoc hi 0, List.filter_append, List.map_append, List.filter_cons, if_neg h]
  simp
theorem lowTo_end (hn : N ≤ 3) {i : Nat} (hi : i = (fL t m N).length) : lowTo t m N i = lowL t m N (4 ^ N) := by
  subst hi
  unfold lowTo
  rw [List.take_length, low_is hn (Nat.le_refl _)]
  rfl
theorem lowTo_len (i : Nat) : (lowTo t m N i).length ≤ 4 ^ N := by
  unfold lowTo
  rw [List.length_map]
  have h1 := List.length_filter_le (isLow t m N) ((fL t m N).take i)
  have h2 : ((fL t m N).take i).length ≤ (fL t m N).length := by rw [List.length_take]; omega
  have h3 := fL_len (t := t) (m := m) (N := N)
  omega
theorem goodTo_few (c : Nat) : (goodTo t m N c).length ≤ c := by
  unfold goodTo
  rw [List.length_map]
  have := List.length_filter_le (goodC t m N) (List.range c)
  rw [List.length_range] at this
  exact this
end

theorem rlow_fn (t : List (List Int)) (m : Int) (hz : rowsE t = 0) : LiftsD Tryd.prog 27 [.sl (.sl .int) t, .i m] (.sl (.sl .int) (lowL t m (t.getD 0 []).length (4 ^ (t.getD 0 []).length))) := by
  have g := rows_good hz
  have gs := g.some
  obtain ⟨N, hN⟩ : ∃ N, (t.getD 0 []).length = N := ⟨_, rfl⟩
  have gc := g.cols
  have hN3 : N ≤ 3 := by omega
  have hp := pow_few hN3
  have hal := allTo_len N (4 ^ N)
  have hE : LiftsD Tryd.prog 45 [.i ((t.getD 0 []).length : Int)] (.sl (.sl .int) (allTo N (4 ^ N))) := by rw [hN]; exact every_fn N hN3
  have hgl := goodTo_len (t := t) (m := m) (N := N)
  have hfl := fL_len (t := t) (m := m) (N := N)
  refine LiftsD.of_body 96 [.tmp 4] Tryd.func27 rfl Tryd.ntmps27 (by kernel_rfl) rfl rfl fun w0 X0 => ?_
  refine AWPD.seq fun K1 hK1 => ?_
  -- region 0
  refine AWPD.keep [0, 1] rfl ?_
  refine AWPD.region tabOK rfl ?_
  refine hK1 _ _ ?_
  clear hK1
  refine AWPD.seq fun K2 hK2 => ?_
  -- region 1
  refine AWPD.keep [0, 1] rfl ?_
  refine AWPD.region tabOK rfl ?_
  refine hK2 _ _ ?_
  clear hK2
  refine AWPD.seq fun K3 hK3 => ?_
  -- region 2
  refine AWPD.keep [0, 1, 5] rfl ?_
  refine AWPD.region tabOK rfl ?_
  repeat refine And.intro (by first | exact fun h => h | exact fun _ => rfl | (intro h; rw [h]; rfl) | omega | (intros; (try dsimp only [Ty.T, Ty.size]); (try simp only [castL_self, Int.toNat_natCast, Int.toNat_zero, Int.toNat_one, true_and, List.length_append, List.length_set, List.length_drop, List.length_take, List.length_replicate, List.length_cons, List.length_nil, Nat.zero_add, Nat.mul_one]); omega) | decide | (intros; simp_all; done) | (intros; simp_all; omega)) ?_
  refine Exists.intro _ (Exists.intro _ (And.intro (StepD.call (hE) rfl rfl rfl) (And.intro rfl (And.intro trivial ?_))))
  refine hK3 _ _ ?_
  clear hK3
  refine AWPD.seq fun K4 hK4 => ?_
  refine AWPD.seq fun K5 hK5 => ?_
  -- region 3
  refine AWPD.keep [0, 1, 5, 6] rfl ?_
  refine AWPD.region tabOK rfl ?_
  refine hK5 _ _ ?_
  clear hK5
  refine AWPD.block ?_
  -- LOOP 0 live [0, 1, 5, 6, 7] changed [5, 7]
  refine AWPD.nilRow 5 22 (.sl .int) rfl (by decide) ?_
  refine AWPD.loopK (σ := Nat) [0, 1, 6] (fun c base => (5, .ob 0) :: (7, .i (c : Int)) :: base) (fun c => [.row 22 (.sl .int) (goodTo t m N c)]) (fun n c => n + c = (allTo N (4 ^ N)).length) ((allTo N (4 ^ N)).length) 0 [0] rfl rfl (by omega) (by decide) ⟨⟨rfl, rfl, rfl⟩, trivial⟩ (by repeat' first | exact True.intro | exact rfl | exact ⟨rfl, rfl⟩ | refine And.intro ?_ ?_) fun n0 c hI0 => ?_
  have hn0 := hI0
  refine AWPD.seq fun K6 hK6 => ?_
  refine AWPD.seq fun K7 hK7 => ?_
  -- region 4
  refine AWPD.keep [0, 1, 5, 6, 7] rfl ?_
  refine AWPD.region tabOK rfl ?_
  refine hK7 _ _ ?_
  clear hK7
  first | refine AWPD.condP rfl (fun h0 => ?_) (fun h0 => ?_) | refine AWPD.condN rfl (fun h0 => ?_) (fun h0 => ?_) | refine AWPD.condAP rfl (fun h0 => ?_) (fun h0 => ?_) | refine AWPD.condOP rfl (fun h0 => ?_) (fun h0 => ?_) | refine AWPD.condONN rfl (fun h0 => ?_) (fun h0 => ?_) | refine AWPD.condOPN rfl (fun h0 => ?_) (fun h0 => ?_) | refine AWPD.condA rfl (fun h0 => ?_) (fun h0 => ?_) | refine AWPD.condO rfl (fun h0 => ?_) (fun h0 => ?_) | refine AWPD.cond rfl (fun h0 => ?_) (fun h0 => ?_)
  · try dsimp only [Ty.T] at h0
    try simp only [castL_self] at h0
    try simp only [Int.toNat_natCast] at h0
    try simp only [Int.toNat_zero] at h0
    have hcl : c < 4 ^ N := by omega
    have ev : (allTo N (4 ^ N)).getD c [] = vec N c := allTo_get hcl
    have hgH : HeightsG t ((allTo N (4 ^ N)).getD c []) := by rw [ev]; exact ⟨g, hz, by rw [vec_len, hN], fun k hk => vec_in (by rw [vec_len] at hk; exact hk)⟩
    have hgf := goodTo_few (t := t) (m := m) (N := N) c
    refine AWPD.skip ?_
    refine hK6 _ _ ?_
    clear hK6
    refine AWPD.seq fun K8 hK8 => ?_
    refine AWPD.block ?_
    refine AWPD.seq fun K9 hK9 => ?_
    -- region 6
    refine AWPD.keep [0, 1, 5, 6, 7] rfl ?_
    refine AWPD.region tabOK rfl ?_
    repeat refine And.intro (by first | exact fun h => h | exact fun _ => rfl | (intro h; rw [h]; rfl) | omega | (intros; (try dsimp only [Ty.T, Ty.size]); (try simp only [castL_self, Int.toNat_natCast, Int.toNat_zero, Int.toNat_one, true_and, List.length_append, List.length_set, List.length_drop, List.length_take, List.length_replicate, List.length_cons, List.length_nil, Nat.zero_add, Nat.mul_one]); omega) | decide | (intros; simp_all; done) | (intros; simp_all; omega)) ?_
    refine Exists.intro _ (Exists.intro _ (And.intro (StepD.call (rfew_fn t ((allTo N (4 ^ N)).getD c []) hgH) rfl rfl rfl) (And.intro rfl (And.intro trivial ?_))))
    refine hK9 _ _ ?_
    clear hK9
    first | refine AWPD.condP rfl (fun h1 => ?_) (fun h1 => ?_) | refine AWPD.condN rfl (fun h1 => ?_) (fun h1 => ?_) | refine AWPD.condAP rfl (fun h1 => ?_) (fun h1 => ?_) | refine AWPD.condOP rfl (fun h1 => ?_) (fun h1 => ?_) | refine AWPD.condONN rfl (fun h1 => ?_) (fun h1 => ?_) | refine AWPD.condOPN rfl (fun h1 => ?_) (fun h1 => ?_) | refine AWPD.condA rfl (fun h1 => ?_) (fun h1 => ?_) | refine AWPD.condO rfl (fun h1 => ?_) (fun h1 => ?_) | refine AWPD.cond rfl (fun h1 => ?_) (fun h1 => ?_)
    · try dsimp only [Ty.T] at h1
      try simp only [castL_self] at h1
      try simp only [Int.toNat_natCast] at h1
      try simp only [Int.toNat_zero] at h1
      have h1 : m ≤ (fewV t (vec N c) : Int) := by rw [← ev]; omega
      -- region 7
      refine AWPD.keep [0, 1, 5, 6, 7] rfl ?_
      refine AWPD.region tabOK rfl ?_
      repeat refine And.intro (by first | exact fun h => h | exact fun _ => rfl | (intro h; rw [h]; rfl) | omega | (intros; (try dsimp only [Ty.T, Ty.size]); (try simp only [castL_self, Int.toNat_natCast, Int.toNat_zero, Int.toNat_one, true_and, List.length_append, List.length_set, List.length_drop, List.length_take, List.length_replicate, List.length_cons, List.length_nil, Nat.zero_add, Nat.mul_one]); omega) | decide | (intros; simp_all; done) | (intros; simp_all; omega)) ?_
      refine hK8 _ _ ?_
      clear hK8
      -- region 5
      refine AWPD.keep [0, 1, 5, 6, 7] rfl ?_
      refine AWPD.region tabOK rfl ?_
      repeat refine And.intro (by first | exact fun h => h | exact fun _ => rfl | (intro h; rw [h]; rfl) | omega | (intros; (try dsimp only [Ty.T, Ty.size]); (try simp only [castL_self, Int.toNat_natCast, Int.toNat_zero, Int.toNat_one, true_and, List.length_append, List.length_set, List.length_drop, List.length_take, List.length_replicate, List.length_cons, List.length_nil, Nat.zero_add, Nat.mul_one]); omega) | decide | (intros; simp_all; done) | (intros; simp_all; omega)) ?_
      refine ⟨n0 - 1, c + 1, [1], by omega, by omega, ⟨by decide, rfl⟩, ⟨⟨rfl, rfl, goodTo_yes ev h1⟩, trivial⟩, ?_⟩
      repeat' first | exact True.intro | exact rfl | exact ⟨rfl, rfl⟩ | refine And.intro ?_ ?_
    · try dsimp only [Ty.T] at h1
      try simp only [castL_self] at h1
      try simp only [Int.toNat_natCast] at h1
      try simp only [Int.toNat_zero] at h1
      have h1 : ¬m ≤ (fewV t (vec N c) : Int) := by rw [← ev]; omega
      refine AWPD.skip ?_
      refine hK8 _ _ ?_
      clear hK8
      -- region 5
      refine AWPD.keep [0, 1, 5, 6, 7] rfl ?_
      refine AWPD.region tabOK rfl ?_
      repeat refine And.intro (by first | exact fun h => h | exact fun _ => rfl | (intro h; rw [h]; rfl) | omega | (intros; (try dsimp only [Ty.T, Ty.size]); (try simp only [castL_self, Int.toNat_natCast, Int.toNat_zero, Int.toNat_one, true_and, List.length_append, List.length_set, List.length_drop, List.length_take, List.length_replicate, List.length_cons, List.length_nil, Nat.zero_add, Nat.mul_one]); omega) | decide | (intros; simp_all; done) | (intros; simp_all; omega)) ?_
      refine ⟨n0 - 1, c + 1, [0], by omega, by omega, ⟨by decide, rfl⟩, ⟨⟨rfl, rfl, goodTo_no h1⟩, trivial⟩, ?_⟩
      repeat' first | exact True.intro | exact rfl | exact ⟨rfl, rfl⟩ | refine And.intro ?_ ?_
  · try dsimp only [Ty.T] at h0
    try simp only [castL_self] at h0
    try simp only [Int.toNat_natCast] at h0
    try simp only [Int.toNat_zero] at h0
    have hcN : c = 4 ^ N := by omega
    subst hcN
    refine AWPD.exit ?_
    refine hK4 _ _ ?_
    clear hK4
    refine AWPD.seq fun K10 hK10 => ?_
    -- region 8
    refine AWPD.keep [5] rfl ?_
    refine AWPD.region tabOK rfl ?_
    refine hK10 _ _ ?_
    clear hK10
    refine AWPD.seq fun K11 hK11 => ?_
    refine AWPD.seq fun K12 hK12 => ?_
    -- region 9
    refine AWPD.keep [5, 8] rfl ?_
    refine AWPD.region tabOK rfl ?_
    refine hK12 _ _ ?_
    clear hK12
    refine AWPD.block ?_
    -- LOOP 1 live [5, 8, 9] changed [8, 9]
    refine AWPD.freeze 5 rfl rfl rfl ?_
    refine AWPD.nilRow 8 22 (.sl .int) rfl (by decide) ?_
    refine AWPD.loopK (σ := Nat) [5] (fun i base => (8, .ob 0) :: (9, .i (i : Int)) :: base) (fun i => [.row 22 (.sl .int) (lowTo t m N i)]) (fun n i => n + i = (goodTo t m N (4 ^ N)).length) ((goodTo t m N (4 ^ N)).length) 0 [1] rfl rfl (by omega) (by decide) ⟨⟨rfl, rfl, rfl⟩, trivial⟩ (by repeat' first | exact True.intro | exact rfl | exact ⟨rfl, rfl⟩ | refine And.intro ?_ ?_) fun n1 i hI1 => ?_
    have hn1 := hI1
    refine AWPD.seq fun K13 hK13 => ?_
    refine AWPD.seq fun K14 hK14 => ?_
    -- region 10
    refine AWPD.keep [5, 8, 9] rfl ?_
    refine AWPD.region tabOK rfl ?_
    refine hK14 _ _ ?_
    clear hK14
    first | refine AWPD.condP rfl (fun h2 => ?_) (fun h2 => ?_) | refine AWPD.condN rfl (fun h2 => ?_) (fun h2 => ?_) | refine AWPD.condAP rfl (fun h2 => ?_) (fun h2 => ?_) | refine AWPD.condOP rfl (fun h2 => ?_) (fun h2 => ?_) | refine AWPD.condONN rfl (fun h2 => ?_) (fun h2 => ?_) | refine AWPD.condOPN rfl (fun h2 => ?_) (fun h2 => ?_) | refine AWPD.condA rfl (fun h2 => ?_) (fun h2 => ?_) | refine AWPD.condO rfl (fun h2 => ?_) (fun h2 => ?_) | refine AWPD.cond rfl (fun h2 => ?_) (fun h2 => ?_)
    · try dsimp only [Ty.T] at h2
      try simp only [castL_self] at h2
      try simp only [Int.toNat_natCast] at h2
      try simp only [Int.toNat_zero] at h2
      have hif : i < (fL t m N).length := by omega
      have hGi := goodTo_get hif
      have hGil : ((goodTo t m N (4 ^ N)).getD i []).length = N := by rw [hGi, vec_len]
      have hll := lowTo_len (t := t) (m := m) (N := N) i
      refine AWPD.skip ?_
      refine hK13 _ _ ?_
      clear hK13
      refine AWPD.seq fun K15 hK15 => ?_
      refine AWPD.block ?_
      refine AWPD.seq fun K16 hK16 => ?_
      -- region 12
      refine AWPD.keep [5, 8, 9] rfl ?_
      refine AWPD.region tabOK rfl ?_
      refine hK16 _ _ ?_
      clear hK16
      refine AWPD.seq fun K17 hK17 => ?_
      refine AWPD.seq fun K18 hK18 => ?_
      -- region 13
      refine AWPD.keep [5, 8, 9, 10] rfl ?_
      refine AWPD.region tabOK rfl ?_
      refine hK18 _ _ ?_
      clear hK18
      refine AWPD.block ?_
      -- LOOP 2 live [5, 8, 9, 10, 11] changed [10, 11]
      refine AWPD.loopK (σ := Nat × Bool) [5, 8, 9] (fun z base => (10, .b z.2) :: (11, .i (z.1 : Int)) :: base) (fun z => [.row 22 (.sl .int) (lowTo t m N i)]) (fun n z => n + z.1 = (goodTo t m N (4 ^ N)).length ∧ (z.2 = true ↔ ∀ q, q < z.1 → ¬(i ≠ q ∧ belowB ((goodTo t m N (4 ^ N)).getD q []) ((goodTo t m N (4 ^ N)).getD i []) = true))) (goodTo t m N (4 ^ N)).length (0, true) [0] rfl rfl (⟨by omega, ⟨fun _ q hq => by omega, fun _ => rfl⟩⟩) (by decide) ⟨⟨rfl, rfl, rfl⟩, trivial⟩ (by repeat' first | exact True.intro | exact rfl | exact ⟨rfl, rfl⟩ | refine And.intro ?_ ?_) fun n2 z hI2 => ?_
      obtain ⟨j, low⟩ := z
      obtain ⟨hn2, hb2⟩ := hI2
      dsimp only at hn2 hb2 ⊢
      refine AWPD.seq fun K19 hK19 => ?_
      refine AWPD.seq fun K20 hK20 => ?_
      -- region 14
      refine AWPD.keep [5, 8, 9, 10, 11] rfl ?_
      refine AWPD.region tabOK rfl ?_
      repeat refine And.intro (by first | exact fun h => h | exact fun _ => rfl | (intro h; rw [h]; rfl) | omega | (intros; (try dsimp only [Ty.T, Ty.size]); (try simp only [castL_self, Int.toNat_natCast, Int.toNat_zero, Int.toNat_one, true_and, List.length_append, List.length_set, List.length_drop, List.length_take, List.length_replicate, List.length_cons, List.length_nil, Nat.zero_add, Nat.mul_one]); omega) | decide | (intros; simp_all; done) | (intros; simp_all; omega)) ?_
      refine hK20 _ _ ?_
      clear hK20
      first | refine AWPD.condP rfl (fun h3 => ?_) (fun h3 => ?_) | refine AWPD.condN rfl (fun h3 => ?_) (fun h3 => ?_) | refine AWPD.condAP rfl (fun h3 => ?_) (fun h3 => ?_) | refine AWPD.condOP rfl (fun h3 => ?_) (fun h3 => ?_) | refine AWPD.condONN rfl (fun h3 => ?_) (fun h3 => ?_) | refine AWPD.condOPN rfl (fun h3 => ?_) (fun h3 => ?_) | refine AWPD.condA rfl (fun h3 => ?_) (fun h3 => ?_) | refine AWPD.condO rfl (fun h3 => ?_) (fun h3 => ?_) | refine AWPD.cond rfl (fun h3 => ?_) (fun h3 => ?_)
      · try dsimp only [Ty.T] at h3
        try simp only [castL_self] at h3
        try simp only [Int.toNat_natCast] at h3
        try simp only [Int.toNat_zero] at h3
        obtain ⟨h3a, h3b⟩ := h3
        subst h3b
        have hb2 := hb2.1 rfl
        have hjf : j < (fL t m N).length := by omega
        have hGj := goodTo_get hjf
        have hGjl : ((goodTo t m N (4 ^ N)).getD j []).length = N := by rw [hGj, vec_len]
        refine AWPD.skip ?_
        refine hK19 _ _ ?_
        clear hK19
        refine AWPD.seq fun K21 hK21 => ?_
        refine AWPD.block ?_
        refine AWPD.seq fun K22 hK22 => ?_
        -- region 16
        refine AWPD.keep [5, 8, 9, 11] rfl ?_
        refine AWPD.region tabOK rfl ?_
        refine hK22 _ _ ?_
        clear hK22
        refine AWPD.seq fun K23 hK23 => ?_
        refine AWPD.seq fun K24 hK24 => ?_
        -- region 17
        refine AWPD.keep [5, 8, 9, 11, 12] rfl ?_
        refine AWPD.region tabOK rfl ?_
        refine hK24 _ _ ?_
        clear hK24
        refine AWPD.block ?_
        -- LOOP 3 live [5, 8, 9, 11, 12, 13] changed [12, 13]
        refine AWPD.loopK (σ := Nat × Bool) [5, 8, 9, 11] (fun y base => (12, .b y.2) :: (13, .i (y.1 : Int)) :: base) (fun y => [.row 22 (.sl .int) (lowTo t m N i)]) (fun n y => n + y.1 = ((goodTo t m N (4 ^ N)).getD i []).length ∧ (y.2 = true ↔ (i ≠ j ∧ ∀ q, q < y.1 → ((goodTo t m N (4 ^ N)).getD j []).getD q 0 ≤ ((goodTo t m N (4 ^ N)).getD i []).getD q 0))) ((goodTo t m N (4 ^ N)).getD i []).length (0, decide (i ≠ j)) [0] rfl rfl (⟨by omega, by simp⟩) (by decide) ⟨⟨rfl, rfl, rfl⟩, trivial⟩ (by repeat' first | exact (show decide ((i : Int) ≠ (j : Int)) = decide (i ≠ j) from decide_eq_decide.2 (by omega)) | exact True.intro | exact rfl | exact ⟨rfl, rfl⟩ | refine And.intro ?_ ?_) fun n3 y hI3 => ?_
        obtain ⟨k, b⟩ := y
        obtain ⟨hn3, hb3⟩ := hI3
        dsimp only at hn3 hb3 ⊢
        refine AWPD.seq fun K25 hK25 => ?_
        refine AWPD.seq fun K26 hK26 => ?_
        -- region 18
        refine AWPD.keep [5, 8, 9, 11, 12, 13] rfl ?_
        refine AWPD.region tabOK rfl ?_
        repeat refine And.intro (by first | exact fun h => h | exact fun _ => rfl | (intro h; rw [h]; rfl) | omega | (intros; (try dsimp only [Ty.T, Ty.size]); (try simp only [castL_self, Int.toNat_natCast, Int.toNat_zero, Int.toNat_one, true_and, List.length_append, List.length_set, List.length_drop, List.length_take, List.length_replicate, List.length_cons, List.length_nil, Nat.zero_add, Nat.mul_one]); omega) | decide | (intros; simp_all; done) | (intros; simp_all; omega)) ?_
        refine hK26 _ _ ?_
        clear hK26
        first | refine AWPD.condP rfl (fun h4 => ?_) (fun h4 => ?_) | refine AWPD.condN rfl (fun h4 => ?_) (fun h4 => ?_) | refine AWPD.condAP rfl (fun h4 => ?_) (fun h4 => ?_) | refine AWPD.condOP rfl (fun h4 => ?_) (fun h4 => ?_) | refine AWPD.condONN rfl (fun h4 => ?_) (fun h4 => ?_) | refine AWPD.condOPN rfl (fun h4 => ?_) (fun h4 => ?_) | refine AWPD.condA rfl (fun h4 => ?_) (fun h4 => ?_) | refine AWPD.condO rfl (fun h4 => ?_) (fun h4 => ?_) | refine AWPD.cond rfl (fun h4 => ?_) (fun h4 => ?_)
        · try dsimp only [Ty.T] at h4
          try simp only [castL_self] at h4
          try simp only [Int.toNat_natCast] at h4
          try simp only [Int.toNat_zero] at h4
          have hkN : k < N := by omega
          refine AWPD.skip ?_
          refine hK25 _ _ ?_
          clear hK25
          refine AWPD.seq fun K27 hK27 => ?_
          refine AWPD.block ?_
          -- region 20
          refine AWPD.keep [5, 8, 9, 11, 12, 13] rfl ?_
          refine AWPD.draw tabOK [] rfl (by kernel_rfl) ?_
          repeat refine And.intro (by first | exact fun h => h | exact fun _ => rfl | (intro h; rw [h]; rfl) | omega | (intros; (try dsimp only [Ty.T, Ty.size]); (try simp only [castL_self, Int.toNat_natCast, Int.toNat_zero, Int.toNat_one, true_and, List.length_append, List.length_set, List.length_drop, List.length_take, List.length_replicate, List.length_cons, List.length_nil, Nat.zero_add, Nat.mul_one]); omega) | decide | (intros; simp_all; done) | (intros; simp_all; omega)) ?_
          refine hK27 _ _ ?_
          clear hK27
          -- region 19
          refine AWPD.keep [5, 8, 9, 11, 12, 13] rfl ?_
          refine AWPD.region tabOK rfl ?_
          repeat refine And.intro (by first | exact fun h => h | exact fun _ => rfl | (intro h; rw [h]; rfl) | omega | (intros; (try dsimp only [Ty.T, Ty.size]); (try simp only [castL_self, Int.toNat_natCast, Int.toNat_zero, Int.toNat_one, true_and, List.length_append, List.length_set, List.length_drop, List.length_take, List.length_replicate, List.length_cons, List.length_nil, Nat.zero_add, Nat.mul_one]); omega) | decide | (intros; simp_all; done) | (intros; simp_all; omega)) ?_
          refine ⟨n3 - 1, (k + 1, bif b then decide (((goodTo t m N (4 ^ N)).getD j []).getD k 0 ≤ ((goodTo t m N (4 ^ N)).getD i []).getD k 0) else false), [0], by omega, ⟨by omega, by
              rw [Bool.cond_false_right, Bool.and_eq_true, hb3, decide_eq_true_eq]
              constructor
              · rintro ⟨⟨h1, h2⟩, h3⟩
                refine ⟨h1, fun q hq => ?_⟩
                rcases Nat.lt_or_ge q k with h | h
                · exact h2 q h
                · rw [show q = k by omega]; exact h3
              · rintro ⟨h1, h2⟩
                exact ⟨⟨h1, fun q hq => h2 q (by omega)⟩, h2 k (by omega)⟩⟩, ⟨by decide, rfl⟩, ⟨⟨rfl, rfl, rfl⟩, trivial⟩, ?_⟩
          repeat' first | exact True.intro | exact rfl | exact ⟨rfl, rfl⟩ | refine And.intro ?_ ?_
        · try dsimp only [Ty.T] at h4
          try simp only [castL_self] at h4
          try simp only [Int.toNat_natCast] at h4
          try simp only [Int.toNat_zero] at h4
          have hkN : k = N := by omega
          subst hkN
          have hbe : b = true ↔ (i ≠ j ∧ belowB ((goodTo t m k (4 ^ k)).getD j []) ((goodTo t m k (4 ^ k)).getD i []) = true) := by
            rw [hb3, belowB_iff, hGjl]
          refine AWPD.exit ?_
          refine hK23 _ _ ?_
          clear hK23
          -- region 21
          refine AWPD.keep [5, 8, 9, 11, 12] rfl ?_
          refine AWPD.region tabOK rfl ?_
          refine hK21 _ _ ?_
          clear hK21
          -- region 15
          refine AWPD.keep [5, 8, 9, 10, 11] rfl ?_
          refine AWPD.region tabOK rfl ?_
          repeat refine And.intro (by first | exact fun h => h | exact fun _ => rfl | (intro h; rw [h]; rfl) | omega | (intros; (try dsimp only [Ty.T, Ty.size]); (try simp only [castL_self, Int.toNat_natCast, Int.toNat_zero, Int.toNat_one, true_and, List.length_append, List.length_set, List.length_drop, List.length_take, List.length_replicate, List.length_cons, List.length_nil, Nat.zero_add, Nat.mul_one]); omega) | decide | (intros; simp_all; done) | (intros; simp_all; omega)) ?_
          refine ⟨n2 - 1, (j + 1, !b), [0], by omega, ⟨by omega, by
              rw [Bool.not_eq_true', Bool.eq_false_iff, ne_eq, hbe]
              constructor
              · intro hh q hq
                rcases Nat.lt_or_ge q j with h | h
                · exact hb2 q h
                · rw [show q = j by omega]; exact hh
              · intro hh
                exact hh j (by omega)⟩, ⟨by decide, rfl⟩, ⟨⟨rfl, rfl, rfl⟩, trivial⟩, ?_⟩
          repeat' first | exact True.intro | exact rfl | exact ⟨rfl, rfl⟩ | refine And.intro ?_ ?_
      · try dsimp only [Ty.T] at h3
        try simp only [castL_self] at h3
        try simp only [Int.toNat_natCast] at h3
        try simp only [Int.toNat_zero] at h3
        have hfin : low = true ↔ isLow t m N ((fL t m N).getD i 0) = true := by
          rw [← low_iff hif]
          constructor
          · intro hl
            have hge : ¬(j < (goodTo t m N (4 ^ N)).length) := fun hlt => h3 ⟨by omega, hl⟩
            intro q hq
            have := hb2.1 hl q (by omega)
            rw [goodTo_get hq, hGi] at this
            exact this
          · intro hq
            refine hb2.2 fun q hqj => ?_
            have hqf : q < (fL t m N).length := by omega
            rw [goodTo_get hqf, hGi]
            exact hq q hqf
        refine AWPD.exit ?_
        refine hK17 _ _ ?_
        clear hK17
        refine AWPD.seq fun K28 hK28 => ?_
        -- region 22
        refine AWPD.keep [5, 8, 9, 10] rfl ?_
        refine AWPD.region tabOK rfl ?_
        refine hK28 _ _ ?_
        clear hK28
        first | refine AWPD.cond rfl (fun h5 => ?_) (fun h5 => ?_)
        · try dsimp only [Ty.T] at h5
          try simp only [castL_self] at h5
          try simp only [Int.toNat_natCast] at h5
          try simp only [Int.toNat_zero] at h5
          have h5 := hfin.1 h5
          -- region 23
          refine AWPD.keep [5, 8, 9] rfl ?_
          refine AWPD.region tabOK rfl ?_
          repeat refine And.intro (by first | exact fun h => h | exact fun _ => rfl | (intro h; rw [h]; rfl) | omega | (intros; (try dsimp only [Ty.T, Ty.size]); (try simp only [castL_self, Int.toNat_natCast, Int.toNat_zero, Int.toNat_one, true_and, List.length_append, List.length_set, List.length_drop, List.length_take, List.length_replicate, List.length_cons, List.length_nil, Nat.zero_add, Nat.mul_one]); omega) | decide | (intros; simp_all; done) | (intros; simp_all; omega)) ?_
          refine hK15 _ _ ?_
          clear hK15
          -- region 11
          refine AWPD.keep [5, 8, 9] rfl ?_
          refine AWPD.region tabOK rfl ?_
          repeat refine And.intro (by first | exact fun h => h | exact fun _ => rfl | (intro h; rw [h]; rfl) | omega | (intros; (try dsimp only [Ty.T, Ty.size]); (try simp only [castL_self, Int.toNat_natCast, Int.toNat_zero, Int.toNat_one, true_and, List.length_append, List.length_set, List.length_drop, List.length_take, List.length_replicate, List.length_cons, List.length_nil, Nat.zero_add, Nat.mul_one]); omega) | decide | (intros; simp_all; done) | (intros; simp_all; omega)) ?_
          refine ⟨n1 - 1, i + 1, [1], by omega, by omega, ⟨by decide, rfl⟩, ⟨⟨rfl, rfl, lowTo_yes hif hGi h5⟩, trivial⟩, ?_⟩
          repeat' first | exact True.intro | exact rfl | exact ⟨rfl, rfl⟩ | refine And.intro ?_ ?_
        · try dsimp only [Ty.T] at h5
          try simp only [castL_self] at h5
          try simp only [Int.toNat_natCast] at h5
          try simp only [Int.toNat_zero] at h5
          have h5 : ¬isLow t m N ((fL t m N).getD i 0) = true := fun hh => by rw [hfin.2 hh] at h5; cases h5
          refine AWPD.skip ?_
          refine hK15 _ _ ?_
          clear hK15
          -- region 11
          refine AWPD.keep [5, 8, 9] rfl ?_
          refine AWPD.region tabOK rfl ?_
          repeat refine And.intro (by first | exact fun h => h | exact fun _ => rfl | (intro h; rw [h]; rfl) | omega | (intros; (try dsimp only [Ty.T, Ty.size]); (try simp only [castL_self, Int.toNat_natCast, Int.toNat_zero, Int.toNat_one, true_and, List.length_append, List.length_set, List.length_drop, List.length_take, List.length_replicate, List.length_cons, List.length_nil, Nat.zero_add, Nat.mul_one]); omega) | decide | (intros; simp_all; done) | (intros; simp_all; omega)) ?_
          refine ⟨n1 - 1, i + 1, [0], by omega, by omega, ⟨by decide, rfl⟩, ⟨⟨rfl, rfl, lowTo_no hif h5⟩, trivial⟩, ?_⟩
          repeat' first | exact True.intro | exact rfl | exact ⟨rfl, rfl⟩ | refine And.intro ?_ ?_
    · try dsimp only [Ty.T] at h2
      try simp only [castL_self] at h2
      try simp only [Int.toNat_natCast] at h2
      try simp only [Int.toNat_zero] at h2
      have hif : i = (fL t m N).length := by omega
      refine AWPD.exit ?_
      refine hK11 _ _ ?_
      clear hK11
      refine AWPD.seq fun K29 hK29 => ?_
      -- region 24
      refine AWPD.keep [8] rfl ?_
      refine AWPD.region tabOK rfl ?_
      refine hK29 _ _ ?_
      clear hK29
      refine AWPD.ret (And.intro (.inl rfl) ?_)
      -- result 0
      refine RetD.one ?_
      exact fitR rfl rfl (by rw [hN]; exact lowTo_end hN3 hif)
theorem rows_fn (a : List (List Int)) (hl : a.length ≤ 1000000) (hr : ∀ i, i < a.length → (a.getD i []).length ≤ 1000000) : LiftsD Tryd.prog 25 [.sl (.sl .int) a, .sl (.sl .int) a] (.b true) := by
  refine LiftsD.of_body 27 [.tmp 4] Tryd.func25 rfl Tryd.ntmps25 (by kernel_rfl) rfl rfl fun w0 X0 => ?_
  refine AWPD.seq fun K1 hK1 => ?_
  -- region 0
  refine AWPD.keep [0, 1] rfl ?_
  refine AWPD.region tabOK rfl ?_
  refine hK1 _ _ ?_
  clear hK1
  refine AWPD.seq fun K2 hK2 => ?_
  refine AWPD.seq fun K3 hK3 => ?_
  -- region 1
  refine AWPD.keep [0, 1] rfl ?_
  refine AWPD.region tabOK rfl ?_
  refine hK3 _ _ ?_
  clear hK3
  first | refine AWPD.condP rfl (fun h0 => ?_) (fun h0 => ?_) | refine AWPD.condN rfl (fun h0 => ?_) (fun h0 => ?_) | refine AWPD.condAP rfl (fun h0 => ?_) (fun h0 => ?_) | refine AWPD.condOP rfl (fun h0 => ?_) (fun h0 => ?_) | refine AWPD.condONN rfl (fun h0 => ?_) (fun h0 => ?_) | refine AWPD.condOPN rfl (fun h0 => ?_) (fun h0 => ?_) | refine AWPD.condA rfl (fun h0 => ?_) (fun h0 => ?_) | refine AWPD.condO rfl (fun h0 => ?_) (fun h0 => ?_) | refine AWPD.cond rfl (fun h0 => ?_) (fun h0 => ?_)
  · try dsimp only [Ty.T] at h0
    try simp only [castL_self] at h0
    try simp only [Int.toNat_natCast] at h0
    try simp only [Int.toNat_zero] at h0
    exact absurd rfl h0
  · try dsimp only [Ty.T] at h0
    try simp only [castL_self] at h0
    try simp only [Int.toNat_natCast] at h0
    try simp only [Int.toNat_zero] at h0
    refine AWPD.skip ?_
    refine hK2 _ _ ?_
    clear hK2
    refine AWPD.seq fun K4 hK4 => ?_
    refine AWPD.seq fun K5 hK5 => ?_
    -- region 3
    refine AWPD.keep [0, 1] rfl ?_
    refine AWPD.region tabOK rfl ?_
    refine hK5 _ _ ?_
    clear hK5
    refine AWPD.block ?_
    -- LOOP 0 live [0, 1, 5] changed [5]
    refine AWPD.loopK (σ := Nat) [0, 1] (fun i base => (5, .i (i : Int)) :: base) (fun _ => []) (fun n i => n + i = a.length) (a.length) 0 [] rfl rfl (by omega) (by decide) trivial (by repeat' first | exact True.intro | exact rfl | exact ⟨rfl, rfl⟩ | refine And.intro ?_ ?_) fun n0 i hI0 => ?_
    have hn0 := hI0
    refine AWPD.seq fun K6 hK6 => ?_
    refine AWPD.seq fun K7 hK7 => ?_
    -- region 4
    refine AWPD.keep [0, 1, 5] rfl ?_
    refine AWPD.region tabOK rfl ?_
    refine hK7 _ _ ?_
    clear hK7
    first | refine AWPD.condP rfl (fun h1 => ?_) (fun h1 => ?_) | refine AWPD.condN rfl (fun h1 => ?_) (fun h1 => ?_) | refine AWPD.condAP rfl (fun h1 => ?_) (fun h1 => ?_) | refine AWPD.condOP rfl (fun h1 => ?_) (fun h1 => ?_) | refine AWPD.condONN rfl (fun h1 => ?_) (fun h1 => ?_) | refine AWPD.condOPN rfl (fun h1 => ?_) (fun h1 => ?_) | refine AWPD.condA rfl (fun h1 => ?_) (fun h1 => ?_) | refine AWPD.condO rfl (fun h1 => ?_) (fun h1 => ?_) | refine AWPD.cond rfl (fun h1 => ?_) (fun h1 => ?_)
    · try dsimp only [Ty.T] at h1
      try simp only [castL_self] at h1
      try simp only [Int.toNat_natCast] at h1
      try simp only [Int.toNat_zero] at h1
      have hri := hr i (by omega)
      refine AWPD.skip ?_
      refine hK6 _ _ ?_
      clear hK6
      refine AWPD.seq fun K8 hK8 => ?_
      refine AWPD.block ?_
      refine AWPD.seq fun K9 hK9 => ?_
      -- region 6
      refine AWPD.keep [0, 1, 5] rfl ?_
      refine AWPD.draw tabOK [] rfl (by kernel_rfl) ?_
      repeat refine And.intro (by first | exact fun h => h | exact fun _ => rfl | (intro h; rw [h]; rfl) | omega | (intros; (try dsimp only [Ty.T, Ty.size]); (try simp only [castL_self, Int.toNat_natCast, Int.toNat_zero, Int.toNat_one, true_and, List.length_append, List.length_set, List.length_drop, List.length_take, List.length_replicate, List.length_cons, List.length_nil, Nat.zero_add, Nat.mul_one]); omega) | decide | (intros; simp_all; done) | (intros; simp_all; omega)) ?_
      refine Exists.intro _ (Exists.intro _ (And.intro (StepD.call (ints_fn (a.getD i []) (a.getD i []) (by omega)) rfl rfl rfl) (And.intro rfl (And.intro rfl ?_))))
      refine hK9 _ _ ?_
      clear hK9
      first | refine AWPD.cond rfl (fun h2 => ?_) (fun h2 => ?_)
      · try dsimp only [Ty.T] at h2
        try simp only [castL_self] at h2
        try simp only [Int.toNat_natCast] at h2
        try simp only [Int.toNat_zero] at h2
        exfalso; simp at h2
      · try dsimp only [Ty.T] at h2
        try simp only [castL_self] at h2
        try simp only [Int.toNat_natCast] at h2
        try simp only [Int.toNat_zero] at h2
        refine AWPD.skip ?_
        refine hK8 _ _ ?_
        clear hK8
        -- region 5
        refine AWPD.keep [0, 1, 5] rfl ?_
        refine AWPD.region tabOK rfl ?_
        repeat refine And.intro (by first | exact fun h => h | exact fun _ => rfl | (intro h; rw [h]; rfl) | omega | (intros; (try dsimp only [Ty.T, Ty.size]); (try simp only [castL_self, Int.toNat_natCast, Int.toNat_zero, Int.toNat_one, true_and, List.length_append, List.length_set, List.length_drop, List.length_take, List.length_replicate, List.length_cons, List.length_nil, Nat.zero_add, Nat.mul_one]); omega) | decide | (intros; simp_all; done) | (intros; simp_all; omega)) ?_
        refine ⟨n0 - 1, i + 1, [], by omega, by omega, ⟨by decide, rfl⟩, trivial, ?_⟩
        repeat' first | exact True.intro | exact rfl | exact ⟨rfl, rfl⟩ | refine And.intro ?_ ?_
    · try dsimp only [Ty.T] at h1
      try simp only [castL_self] at h1
      try simp only [Int.toNat_natCast] at h1
      try simp only [Int.toNat_zero] at h1
      refine AWPD.exit ?_
      refine hK4 _ _ ?_
      clear hK4
      refine AWPD.seq fun K10 hK10 => ?_
      -- region 8
      refine AWPD.keep [] rfl ?_
      refine AWPD.region tabOK rfl ?_
      refine hK10 _ _ ?_
      clear hK10
      refine AWPD.ret (And.intro (.inl rfl) ?_)
      -- result 0
      refine RetD.one ?_
      exact fitB rfl rfl
end Go.Proofs.YtmeacgkhabnjlaaDoor
