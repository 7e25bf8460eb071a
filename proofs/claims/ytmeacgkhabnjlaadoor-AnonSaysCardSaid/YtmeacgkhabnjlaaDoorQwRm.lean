/-
  WALKS of all heights in order, and of rows blurred by the program.
-/
import Derived.Test.YtmeacgkhabnjlaaDoorQwRl
namespace Go.Proofs.YtmeacgkhabnjlaaDoor
open Go Go.Qw
set_option maxRecDepth 10000
set_option linter.unusedSimpArgs false
set_option linter.unusedVariables false
set_option linter.unusedSectionVars false
set_option maxHeartbeats 2000000


theorem vec_cons_tab : ∀ q : Nat, q < 3 → ∀ h : Nat, h < 4 → ∀ i : Nat, i < 4 ^ q → ((h : Int) :: vec q i) = vec (q + 1) (h * 4 ^ q + i) := by decide +kernel
def allTo (q c : Nat) : List (List Int) := (List.range c).map (vec q)
theorem allTo_len (q c : Nat) : (allTo q c).length = c := by simp [allTo]
theorem allTo_snoc (q c : Nat) : allTo q c ++ [vec q c] = allTo q (c + 1) := by simp [allTo, List.range_succ]
theorem allTo_get {q c i : Nat} (h : i < c) : (allTo q c).getD i [] = vec q i := by simp [allTo, List.getD, h]
theorem rows_more {L L' : List (List Int)} {v v' : List Int} {k : Nat} (h : k = L.length) (hv : v = v') (hL : L ++ [v'] = L') : (L.map rowI ++ [OD.dead]).set k (rowI v) = L'.map rowI := by
  subst hv hL; exact rows_snoc h
theorem blurL_take {row hs : List Int} (h : row.length ≤ 3) : (blurL row hs).take row.length = blurR row hs := by
  unfold blurL blurR blurP blurQ
  refine List.ext_getElem (by simp; omega) fun k h1 h2 => ?_
  have hk : k < row.length := by simp at h2; exact h2
  simp only [List.getElem_take, List.getElem_map, List.getElem_range]
  rw [if_pos hk]
  rfl
theorem intsD_blur (row hs : List Int) : (blurL row hs).length = 3 := blurP_len _ _ _

theorem every0_fn  : LiftsD Tryd.prog 45 [.i 0] (.sl (.sl .int) (allTo 0 1)) := by
  refine LiftsD.of_body 36 [.tmp 2] Tryd.func45 rfl Tryd.ntmps45 (by kernel_rfl) rfl rfl fun w0 X0 => ?_
  refine AWPD.seq fun K1 hK1 => ?_
  -- region 0
  refine AWPD.keep [0] rfl ?_
  refine AWPD.region tabOK rfl ?_
  refine hK1 _ _ ?_
  clear hK1
  refine AWPD.seq fun K2 hK2 => ?_
  refine AWPD.seq fun K3 hK3 => ?_
  -- region 1
  refine AWPD.keep [0] rfl ?_
  refine AWPD.region tabOK rfl ?_
  refine hK3 _ _ ?_
  clear hK3
  first | refine AWPD.condP rfl (fun h0 => ?_) (fun h0 => ?_) | refine AWPD.condN rfl (fun h0 => ?_) (fun h0 => ?_) | refine AWPD.condAP rfl (fun h0 => ?_) (fun h0 => ?_) | refine AWPD.condOP rfl (fun h0 => ?_) (fun h0 => ?_) | refine AWPD.condONN rfl (fun h0 => ?_) (fun h0 => ?_) | refine AWPD.condOPN rfl (fun h0 => ?_) (fun h0 => ?_) | refine AWPD.condA rfl (fun h0 => ?_) (fun h0 => ?_) | refine AWPD.condO rfl (fun h0 => ?_) (fun h0 => ?_) | refine AWPD.cond rfl (fun h0 => ?_) (fun h0 => ?_)
  · try dsimp only [Ty.T] at h0
    try simp only [castL_self] at h0
    try simp only [Int.toNat_natCast] at h0
    try simp only [Int.toNat_zero] at h0
    refine AWPD.seq fun K4 hK4 => ?_
    -- region 2
    refine AWPD.keep [] rfl ?_
    refine AWPD.region tabOK rfl ?_
    refine Exists.intro _ (Exists.intro _ (And.intro (StepD.buildNil tabOK rfl (by decide) rfl rfl) (And.intro rfl (And.intro trivial ?_))))
    refine hK4 _ _ ?_
    clear hK4
    refine AWPD.ret (And.intro (.inl rfl) ?_)
    -- result 0
    refine RetD.one ?_
    exact fitS rfl rfl
  · try dsimp only [Ty.T] at h0
    try simp only [castL_self] at h0
    try simp only [Int.toNat_natCast] at h0
    try simp only [Int.toNat_zero] at h0
    exact absurd trivial h0
theorem everyS_fn (q : Nat) (hq : q < 3) (ih : LiftsD Tryd.prog 45 [.i (q : Int)] (.sl (.sl .int) (allTo q (4 ^ q)))) : LiftsD Tryd.prog 45 [.i ((q + 1 : Nat) : Int)] (.sl (.sl .int) (allTo (q + 1) (4 ^ (q + 1)))) := by
  have ih2 : LiftsD Tryd.prog 45 [.i (((q + 1 : Nat) : Int) - 1)] (.sl (.sl .int) (allTo q (4 ^ q))) := by rw [show ((q + 1 : Nat) : Int) - 1 = (q : Int) by omega]; exact ih
  have hp := pow_few (N := q) (by omega)
  have hal := allTo_len q (4 ^ q)
  refine LiftsD.of_body 36 [.tmp 2] Tryd.func45 rfl Tryd.ntmps45 (by kernel_rfl) rfl rfl fun w0 X0 => ?_
  refine AWPD.seq fun K1 hK1 => ?_
  -- region 0
  refine AWPD.keep [0] rfl ?_
  refine AWPD.region (tabOK.own [25]) rfl ?_
  refine hK1 _ _ ?_
  clear hK1
  refine AWPD.seq fun K2 hK2 => ?_
  refine AWPD.seq fun K3 hK3 => ?_
  -- region 1
  refine AWPD.keep [0] rfl ?_
  refine AWPD.region (tabOK.own [25]) rfl ?_
  refine hK3 _ _ ?_
  clear hK3
  first | refine AWPD.condP rfl (fun h0 => ?_) (fun h0 => ?_) | refine AWPD.condN rfl (fun h0 => ?_) (fun h0 => ?_) | refine AWPD.condAP rfl (fun h0 => ?_) (fun h0 => ?_) | refine AWPD.condOP rfl (fun h0 => ?_) (fun h0 => ?_) | refine AWPD.condONN rfl (fun h0 => ?_) (fun h0 => ?_) | refine AWPD.condOPN rfl (fun h0 => ?_) (fun h0 => ?_) | refine AWPD.condA rfl (fun h0 => ?_) (fun h0 => ?_) | refine AWPD.condO rfl (fun h0 => ?_) (fun h0 => ?_) | refine AWPD.cond rfl (fun h0 => ?_) (fun h0 => ?_)
  · try dsimp only [Ty.T] at h0
    try simp only [castL_self] at h0
    try simp only [Int.toNat_natCast] at h0
    try simp only [Int.toNat_zero] at h0
    exfalso; omega
  · try dsimp only [Ty.T] at h0
    try simp only [castL_self] at h0
    try simp only [Int.toNat_natCast] at h0
    try simp only [Int.toNat_zero] at h0
    refine AWPD.skip ?_
    refine hK2 _ _ ?_
    clear hK2
    refine AWPD.seq fun K4 hK4 => ?_
    -- region 3
    refine AWPD.keep [0] rfl ?_
    refine AWPD.region (tabOK.own [25]) rfl ?_
    refine hK4 _ _ ?_
    clear hK4
    refine AWPD.seq fun K5 hK5 => ?_
    -- region 4
    refine AWPD.keep [0, 3] rfl ?_
    refine AWPD.region (tabOK.own [25]) rfl ?_
    repeat refine And.intro (by first | exact fun h => h | exact fun _ => rfl | (intro h; rw [h]; rfl) | omega | (intros; (try dsimp only [Ty.T, Ty.size]); (try simp only [castL_self, Int.toNat_natCast, Int.toNat_zero, Int.toNat_one, true_and, List.length_append, List.length_set, List.length_drop, List.length_take, List.length_replicate, List.length_cons, List.length_nil, Nat.zero_add, Nat.mul_one]); omega) | decide | (intros; simp_all; done) | (intros; simp_all; omega)) ?_
    refine Exists.intro _ (Exists.intro _ (And.intro (StepD.call (ih2) rfl rfl rfl) (And.intro rfl (And.intro trivial ?_))))
    refine hK5 _ _ ?_
    clear hK5
    refine AWPD.seq fun K6 hK6 => ?_
    refine AWPD.seq fun K7 hK7 => ?_
    -- region 5
    refine AWPD.keep [3, 4] rfl ?_
    refine AWPD.region (tabOK.own [25]) rfl ?_
    refine hK7 _ _ ?_
    clear hK7
    refine AWPD.block ?_
    -- LOOP 0 live [3, 4, 5] changed [3, 5]
    refine AWPD.nilRow 3 22 .val rfl (by decide) ?_
    refine AWPD.rows0 [] ?_
    refine AWPD.loopK (σ := Nat × List Value) [4] (fun z base => (3, .ob 0) :: (5, .i (z.1 : Int)) :: base) (fun z => [.row 22 .val z.2, rowsO z.2 ((allTo (q + 1) (z.1 * 4 ^ q)).map rowI)]) (fun n z => n + z.1 = 4 ∧ z.2.length = z.1 * 4 ^ q) 4 (0, []) [0, 1] rfl rfl (⟨by omega, by simp⟩) (by decide) ⟨⟨rfl, rfl, rfl⟩, (by show rowsC _ _ = rowsC _ _; rw [Nat.zero_mul]; rfl), trivial⟩ (by repeat' first | exact True.intro | exact rfl | exact ⟨rfl, rfl⟩ | refine And.intro ?_ ?_) fun n0 z hI0 => ?_
    obtain ⟨h, hd⟩ := z
    obtain ⟨hn0, hdl⟩ := hI0
    dsimp only at hn0 hdl ⊢
    refine AWPD.seq fun K8 hK8 => ?_
    refine AWPD.seq fun K9 hK9 => ?_
    -- region 6
    refine AWPD.keep [3, 4, 5] rfl ?_
    refine AWPD.region (tabOK.own [25]) rfl ?_
    refine hK9 _ _ ?_
    clear hK9
    first | refine AWPD.condP rfl (fun h1 => ?_) (fun h1 => ?_) | refine AWPD.condN rfl (fun h1 => ?_) (fun h1 => ?_) | refine AWPD.condAP rfl (fun h1 => ?_) (fun h1 => ?_) | refine AWPD.condOP rfl (fun h1 => ?_) (fun h1 => ?_) | refine AWPD.condONN rfl (fun h1 => ?_) (fun h1 => ?_) | refine AWPD.condOPN rfl (fun h1 => ?_) (fun h1 => ?_) | refine AWPD.condA rfl (fun h1 => ?_) (fun h1 => ?_) | refine AWPD.condO rfl (fun h1 => ?_) (fun h1 => ?_) | refine AWPD.cond rfl (fun h1 => ?_) (fun h1 => ?_)
    · try dsimp only [Ty.T] at h1
      try simp only [castL_self] at h1
      try simp only [Int.toNat_natCast] at h1
      try simp only [Int.toNat_zero] at h1
      have hh4 : h < 4 := by omega
      refine AWPD.skip ?_
      refine hK8 _ _ ?_
      clear hK8
      refine AWPD.seq fun K10 hK10 => ?_
      refine AWPD.block ?_
      refine AWPD.seq fun K11 hK11 => ?_
      -- region 8
      refine AWPD.keep [3, 4, 5] rfl ?_
      refine AWPD.region (tabOK.own [25]) rfl ?_
      refine hK11 _ _ ?_
      clear hK11
      refine AWPD.block ?_
      -- LOOP 1 live [3, 4, 5, 6] changed [3, 6]
      refine AWPD.loopK (σ := Nat × List Value) [4, 5] (fun y base => (3, .ob 0) :: (6, .i (y.1 : Int)) :: base) (fun y => [.row 22 .val y.2, rowsO y.2 ((allTo (q + 1) (h * 4 ^ q + y.1)).map rowI)]) (fun n y => n + y.1 = (allTo q (4 ^ q)).length ∧ y.2.length = h * 4 ^ q + y.1) (allTo q (4 ^ q)).length (0, hd) [0, 1] rfl rfl (⟨by omega, hdl⟩) (by decide) ⟨⟨rfl, rfl, rfl⟩, rfl, trivial⟩ (by repeat' first | exact True.intro | exact rfl | exact ⟨rfl, rfl⟩ | refine And.intro ?_ ?_) fun n1 y hI1 => ?_
      obtain ⟨i, hd1⟩ := y
      obtain ⟨hn1, hdl1⟩ := hI1
      dsimp only at hn1 hdl1 ⊢
      refine AWPD.seq fun K12 hK12 => ?_
      refine AWPD.seq fun K13 hK13 => ?_
      -- region 9
      refine AWPD.keep [3, 4, 5, 6] rfl ?_
      refine AWPD.region (tabOK.own [25]) rfl ?_
      refine hK13 _ _ ?_
      clear hK13
      first | refine AWPD.condP rfl (fun h2 => ?_) (fun h2 => ?_) | refine AWPD.condN rfl (fun h2 => ?_) (fun h2 => ?_) | refine AWPD.condAP rfl (fun h2 => ?_) (fun h2 => ?_) | refine AWPD.condOP rfl (fun h2 => ?_) (fun h2 => ?_) | refine AWPD.condONN rfl (fun h2 => ?_) (fun h2 => ?_) | refine AWPD.condOPN rfl (fun h2 => ?_) (fun h2 => ?_) | refine AWPD.condA rfl (fun h2 => ?_) (fun h2 => ?_) | refine AWPD.condO rfl (fun h2 => ?_) (fun h2 => ?_) | refine AWPD.cond rfl (fun h2 => ?_) (fun h2 => ?_)
      · try dsimp only [Ty.T] at h2
        try simp only [castL_self] at h2
        try simp only [Int.toNat_natCast] at h2
        try simp only [Int.toNat_zero] at h2
        have hil : i < 4 ^ q := by omega
        have hai := allTo_get hil (q := q)
        have hvl := vec_len q i
        refine AWPD.skip ?_
        refine hK12 _ _ ?_
        clear hK12
        refine AWPD.seq fun K14 hK14 => ?_
        refine AWPD.block ?_
        refine AWPD.seq fun K15 hK15 => ?_
        -- region 11
        refine AWPD.keep [3, 4, 5, 6] rfl ?_
        refine AWPD.region (tabOK.own [25]) rfl ?_
        refine hK15 _ _ ?_
        clear hK15
        -- region 12
        have hail : ((allTo q (4 ^ q)).getD i []).length = q := by rw [hai, hvl]
        have hm4 : h * 4 ^ q ≤ 3 * 4 ^ q := Nat.mul_le_mul_right _ (by omega)
        refine AWPD.keep [3, 4, 5, 6, 7] rfl ?_
        refine AWPD.region (tabOK.own [25]) rfl ?_
        repeat refine And.intro (by first | exact fun h => h | exact fun _ => rfl | (intro h; rw [h]; rfl) | omega | (intros; (try dsimp only [Ty.T, Ty.size]); (try simp only [castL_self, Int.toNat_natCast, Int.toNat_zero, Int.toNat_one, true_and, List.length_append, List.length_set, List.length_drop, List.length_take, List.length_replicate, List.length_cons, List.length_nil, Nat.zero_add, Nat.mul_one]); omega) | decide | (intros; simp_all; done) | (intros; simp_all; omega)) ?_
        refine Exists.intro _ (Exists.intro _ (And.intro (StepD.buildH (tabOK.own [25]) rfl rfl rfl rfl) (And.intro rfl (And.intro trivial ?_))))
        refine Exists.intro _ (Exists.intro _ (And.intro (StepD.appendH (tabOK.own [25]) rfl rfl rfl rfl rfl (by constructor <;> omega)) (And.intro rfl (And.intro trivial ?_))))
        refine hK14 _ _ ?_
        clear hK14
        -- region 10
        refine AWPD.holeM 1 (.slice none 0 0) rfl ?_
        refine AWPD.absorb 4 1 3 hd1.length (by decide) (by decide) (by decide) rfl rfl rfl (rows_dead (by rw [allTo_len]; exact hdl1)) (by simp) (flat_int _) fun x => ?_
        have e1 : (hd1 ++ [(.slice none 0 0 : Value)]).set hd1.length x = hd1 ++ [x] := set_last _ _ _
        have e2 := rows_more (L := allTo (q + 1) (h * 4 ^ q + i)) (v := [(h : Int)] ++ (allTo q (4 ^ q)).getD i []) (k := hd1.length) (by rw [allTo_len]; exact hdl1) (by rw [hai]; exact vec_cons_tab q hq h hh4 i hil) (allTo_snoc (q + 1) (h * 4 ^ q + i))
        refine AWPD.keep [3, 4, 5, 6] rfl ?_
        refine AWPD.region (tabOK.own [25]) rfl ?_
        repeat refine And.intro (by first | exact fun h => h | exact fun _ => rfl | (intro h; rw [h]; rfl) | omega | (intros; (try dsimp only [Ty.T, Ty.size]); (try simp only [castL_self, Int.toNat_natCast, Int.toNat_zero, Int.toNat_one, true_and, List.length_append, List.length_set, List.length_drop, List.length_take, List.length_replicate, List.length_cons, List.length_nil, Nat.zero_add, Nat.mul_one]); omega) | decide | (intros; simp_all; done) | (intros; simp_all; omega)) ?_
        refine ⟨n1 - 1, (i + 1, hd1 ++ [x]), [4, 1], by omega, ⟨by omega, by rw [List.length_append, hdl1]; rfl⟩, ⟨by decide, rfl⟩, ⟨⟨rfl, rfl, e1⟩, (by show rowsC _ _ = rowsC _ _; rw [← e1]; exact congrArg (rowsC _) e2), trivial⟩, ?_⟩
        repeat' first | exact True.intro | exact rfl | exact ⟨rfl, rfl⟩ | refine And.intro ?_ ?_
      · try dsimp only [Ty.T] at h2
        try simp only [castL_self] at h2
        try simp only [Int.toNat_natCast] at h2
        try simp only [Int.toNat_zero] at h2
        have hie : i = 4 ^ q := by omega
        subst hie
        refine AWPD.exit ?_
        refine hK10 _ _ ?_
        clear hK10
        -- region 7
        refine AWPD.keep [3, 4, 5] rfl ?_
        refine AWPD.region (tabOK.own [25]) rfl ?_
        repeat refine And.intro (by first | exact fun h => h | exact fun _ => rfl | (intro h; rw [h]; rfl) | omega | (intros; (try dsimp only [Ty.T, Ty.size]); (try simp only [castL_self, Int.toNat_natCast, Int.toNat_zero, Int.toNat_one, true_and, List.length_append, List.length_set, List.length_drop, List.length_take, List.length_replicate, List.length_cons, List.length_nil, Nat.zero_add, Nat.mul_one]); omega) | decide | (intros; simp_all; done) | (intros; simp_all; omega)) ?_
        refine ⟨n0 - 1, (h + 1, hd1), [0, 1], by omega, ⟨by omega, by rw [hdl1, Nat.succ_mul]⟩, ⟨by decide, rfl⟩, ⟨⟨rfl, rfl, rfl⟩, (by show rowsC _ _ = rowsC _ _; rw [Nat.succ_mul]), trivial⟩, ?_⟩
        repeat' first | exact True.intro | exact rfl | exact ⟨rfl, rfl⟩ | refine And.intro ?_ ?_
    · try dsimp only [Ty.T] at h1
      try simp only [castL_self] at h1
      try simp only [Int.toNat_natCast] at h1
      try simp only [Int.toNat_zero] at h1
      have hh4 : h = 4 := by omega
      refine AWPD.exit ?_
      refine hK6 _ _ ?_
      clear hK6
      refine AWPD.seq fun K16 hK16 => ?_
      -- region 13
      refine AWPD.freeze 3 rfl rfl rfl ?_
      refine AWPD.freezeM (e := 3) (τ := .int) 3 1 (allTo (q + 1) (h * 4 ^ q)) rfl rfl rfl rfl ?_
      refine AWPD.keep [3] rfl ?_
      refine AWPD.region (tabOK.own [25]) rfl ?_
      refine hK16 _ _ ?_
      clear hK16
      refine AWPD.ret (And.intro (.inl rfl) ?_)
      -- result 0
      refine RetD.one ?_
      exact fitS rfl (by rw [hh4, Nat.pow_succ, Nat.mul_comm])

theorem every_fn : ∀ (q : Nat) (hq : q ≤ 3), LiftsD Tryd.prog 45 [.i (q : Int)] (.sl (.sl .int) (allTo q (4 ^ q)))
  | 0, _ => every0_fn
  | q + 1, hq => everyS_fn q (by omega) (every_fn q (by omega))

theorem Blur_fn (t : List (List Int)) (hs : List Int) : LiftsD Tryd.prog 24 [.sl (.sl .int) t, .sl .int hs] (.tup [.sl (.sl .int) (if heightsE t hs = 0 then blurT t hs else []), .er 56 (heightsE t hs)]) := by
  refine LiftsD.of_body 35 [.tmp 4, .tmp 5] Tryd.func24 rfl Tryd.ntmps24 (by kernel_rfl) rfl rfl fun w0 X0 => ?_
  refine AWPD.seq fun K1 hK1 => ?_
  -- region 0
  refine AWPD.keep [0, 1] rfl ?_
  refine AWPD.region tabOK rfl ?_
  refine hK1 _ _ ?_
  clear hK1
  refine AWPD.seq fun K2 hK2 => ?_
  refine AWPD.seq fun K3 hK3 => ?_
  -- region 1
  refine AWPD.keep [0, 1] rfl ?_
  refine AWPD.region tabOK rfl ?_
  refine Exists.intro _ (Exists.intro _ (And.intro (StepD.call (ancheck_fn _ _) rfl rfl rfl) (And.intro rfl (And.intro trivial ?_))))
  refine hK3 _ _ ?_
  clear hK3
  refine AWPD.seq fun K4 hK4 => ?_
  -- region 2
  refine AWPD.keep [0, 1, 6] rfl ?_
  refine AWPD.region tabOK rfl ?_
  refine hK4 _ _ ?_
  clear hK4
  first | refine AWPD.condP rfl (fun h0 => ?_) (fun h0 => ?_) | refine AWPD.condN rfl (fun h0 => ?_) (fun h0 => ?_) | refine AWPD.condAP rfl (fun h0 => ?_) (fun h0 => ?_) | refine AWPD.condOP rfl (fun h0 => ?_) (fun h0 => ?_) | refine AWPD.condONN rfl (fun h0 => ?_) (fun h0 => ?_) | refine AWPD.condOPN rfl (fun h0 => ?_) (fun h0 => ?_) | refine AWPD.condA rfl (fun h0 => ?_) (fun h0 => ?_) | refine AWPD.condO rfl (fun h0 => ?_) (fun h0 => ?_) | refine AWPD.cond rfl (fun h0 => ?_) (fun h0 => ?_)
  · try dsimp only [Ty.T] at h0
    try simp only [castL_self] at h0
    try simp only [Int.toNat_natCast] at h0
    try simp only [Int.toNat_zero] at h0
    have h0 : heightsE t hs ≠ 0 := by simpa using h0
    refine AWPD.seq fun K5 hK5 => ?_
    -- region 3
    refine AWPD.keep [6] rfl ?_
    refine AWPD.region tabOK rfl ?_
    refine hK5 _ _ ?_
    clear hK5
    refine AWPD.ret (And.intro (.inl rfl) ?_)
    -- result 0
    exact ⟨fitN rfl (by rw [if_neg h0]) (by decide), fitE rfl rfl⟩
  · try dsimp only [Ty.T] at h0
    try simp only [castL_self] at h0
    try simp only [Int.toNat_natCast] at h0
    try simp only [Int.toNat_zero] at h0
    have h0 : heightsE t hs = 0 := by simpa using h0
    have g := heights_good h0
    have gr := g.rows
    have gf := gr.few
    have gc := gr.cols
    have gl := g.len
    have hhr := g.in_
    refine AWPD.skip ?_
    refine hK2 _ _ ?_
    clear hK2
    refine AWPD.seq fun K6 hK6 => ?_
    -- region 4
    refine AWPD.keep [0, 1] rfl ?_
    refine AWPD.region tabOK rfl ?_
    refine hK6 _ _ ?_
    clear hK6
    refine AWPD.seq fun K7 hK7 => ?_
    refine AWPD.seq fun K8 hK8 => ?_
    -- region 5
    refine AWPD.keep [0, 1, 7] rfl ?_
    refine AWPD.region tabOK rfl ?_
    refine hK8 _ _ ?_
    clear hK8
    refine AWPD.block ?_
    -- LOOP 0 live [1, 7, 17, 18, 19] changed [7, 19]
    refine AWPD.nilRow 7 22 .val rfl (by decide) ?_
    refine AWPD.rows0 [] ?_
    refine AWPD.loopK (σ := Nat × List Value) [1, 17, 18] (fun z base => (7, .ob 0) :: (19, .i (z.1 : Int)) :: base) (fun z => [.row 22 .val z.2, rowsO z.2 ((blurTo t hs z.1).map rowI)]) (fun n z => n + z.1 = t.length ∧ z.2.length = z.1) t.length (0, []) [0, 1] rfl rfl (⟨by omega, rfl⟩) (by decide) ⟨⟨rfl, rfl, rfl⟩, rfl, trivial⟩ (by repeat' first | exact True.intro | exact rfl | exact ⟨rfl, rfl⟩ | refine And.intro ?_ ?_) fun n0 z hI0 => ?_
    obtain ⟨i, hd⟩ := z
    obtain ⟨hn0, hdl⟩ := hI0
    dsimp only at hn0 hdl ⊢
    refine AWPD.seq fun K9 hK9 => ?_
    -- region 6
    refine AWPD.keep [1, 7, 17, 18, 19] rfl ?_
    refine AWPD.region tabOK rfl ?_
    refine hK9 _ _ ?_
    clear hK9
    refine AWPD.seq fun K10 hK10 => ?_
    first | refine AWPD.condP rfl (fun h1 => ?_) (fun h1 => ?_) | refine AWPD.condN rfl (fun h1 => ?_) (fun h1 => ?_) | refine AWPD.condAP rfl (fun h1 => ?_) (fun h1 => ?_) | refine AWPD.condOP rfl (fun h1 => ?_) (fun h1 => ?_) | refine AWPD.condONN rfl (fun h1 => ?_) (fun h1 => ?_) | refine AWPD.condOPN rfl (fun h1 => ?_) (fun h1 => ?_) | refine AWPD.condA rfl (fun h1 => ?_) (fun h1 => ?_) | refine AWPD.condO rfl (fun h1 => ?_) (fun h1 => ?_) | refine AWPD.cond rfl (fun h1 => ?_) (fun h1 => ?_)
    · try dsimp only [Ty.T] at h1
      try simp only [castL_self] at h1
      try simp only [Int.toNat_natCast] at h1
      try simp only [Int.toNat_zero] at h1
      have hil : i < t.length := by omega
      have hli := gr.len i hil
      have hbl := blurTo_len t hs i
      refine AWPD.skip ?_
      refine hK10 _ _ ?_
      clear hK10
      refine AWPD.seq fun K11 hK11 => ?_
      refine AWPD.block ?_
      refine AWPD.seq fun K12 hK12 => ?_
      -- region 7
      refine AWPD.keep [1, 7, 17, 18, 19] rfl ?_
      refine AWPD.region tabOK rfl ?_
      repeat refine And.intro (by first | exact fun h => h | exact fun _ => rfl | (intro h; rw [h]; rfl) | omega | (intros; (try dsimp only [Ty.T, Ty.size]); (try simp only [castL_self, Int.toNat_natCast, Int.toNat_zero, Int.toNat_one, true_and, List.length_append, List.length_set, List.length_drop, List.length_take, List.length_replicate, List.length_cons, List.length_nil, Nat.zero_add, Nat.mul_one]); omega) | decide | (intros; simp_all; done) | (intros; simp_all; omega)) ?_
      refine hK12 _ _ ?_
      clear hK12
      refine AWPD.seq fun K13 hK13 => ?_
      -- region 8
      refine AWPD.keep [1, 7, 9, 17, 18, 19] rfl ?_
      refine AWPD.region tabOK rfl ?_
      refine Exists.intro _ (Exists.intro _ (And.intro (StepD.call (noG_toD (blur_fn (t.getD i []) hs (by omega) (by omega) (fun k hk => hhr k hk))) rfl rfl rfl) (And.intro rfl (And.intro trivial ?_))))
      repeat refine And.intro (by first | exact fun h => h | exact fun _ => rfl | (intro h; rw [h]; rfl) | omega | (intros; (try dsimp only [Ty.T, Ty.size]); (try simp only [castL_self, Int.toNat_natCast, Int.toNat_zero, Int.toNat_one, true_and, List.length_append, List.length_set, List.length_drop, List.length_take, List.length_replicate, List.length_cons, List.length_nil, Nat.zero_add, Nat.mul_one]); omega) | decide | (intros; simp_all; done) | (intros; simp_all; omega)) ?_
      refine hK13 _ _ ?_
      clear hK13
      -- region 9
      refine AWPD.freezeA 10 (i := 2) (xs := blurL (t.getD i []) hs) (fun b hb => by cases hb) rfl rfl ?_
      have hb3 := intsD_blur (t.getD i []) hs
      refine AWPD.keep [1, 7, 9, 10, 17, 18, 19] rfl ?_
      refine AWPD.region tabOK rfl ?_
      repeat refine And.intro (by first | exact fun h => h | exact fun _ => rfl | (intro h; rw [h]; rfl) | omega | (intros; (try dsimp only [Ty.T, Ty.size]); (try simp only [castL_self, Int.toNat_natCast, Int.toNat_zero, Int.toNat_one, true_and, List.length_append, List.length_set, List.length_drop, List.length_take, List.length_replicate, List.length_cons, List.length_nil, Nat.zero_add, Nat.mul_one]); omega) | decide | (intros; simp_all; done) | (intros; simp_all; omega)) ?_
      refine Exists.intro _ (Exists.intro _ (And.intro (StepD.callN (clone_fn ((blurL (t.getD i []) hs).take (t.getD i []).length) (by rw [List.length_take]; omega)) rfl rfl (row_free _ _ _)) (And.intro rfl (And.intro trivial ?_))))
      refine Exists.intro _ (Exists.intro _ (And.intro (StepD.buildH tabOK rfl rfl rfl rfl) (And.intro rfl (And.intro trivial ?_))))
      refine Exists.intro _ (Exists.intro _ (And.intro (StepD.appendH tabOK rfl rfl rfl rfl rfl (by constructor <;> omega)) (And.intro rfl (And.intro trivial ?_))))
      refine hK11 _ _ ?_
      clear hK11
      -- region 10
      refine AWPD.holeM 1 (.slice none 0 0) rfl ?_
      refine AWPD.absorb 4 1 3 hd.length (by decide) (by decide) (by decide) rfl rfl rfl (rows_dead (by rw [hbl]; exact hdl)) (by simp) (flat_int _) fun x => ?_
      have e1 : (hd ++ [(.slice none 0 0 : Value)]).set hd.length x = hd ++ [x] := set_last _ _ _
      have e2 := rows_more (L := blurTo t hs i) (v := (blurL (t.getD i []) hs).take (t.getD i []).length) (k := hd.length) (by rw [hbl]; exact hdl) (blurL_take (by omega)) (blurTo_snoc t hs i)
      refine AWPD.keep [1, 7, 17, 18, 19] rfl ?_
      refine AWPD.region tabOK rfl ?_
      repeat refine And.intro (by first | exact fun h => h | exact fun _ => rfl | (intro h; rw [h]; rfl) | omega | (intros; (try dsimp only [Ty.T, Ty.size]); (try simp only [castL_self, Int.toNat_natCast, Int.toNat_zero, Int.toNat_one, true_and, List.length_append, List.length_set, List.length_drop, List.length_take, List.length_replicate, List.length_cons, List.length_nil, Nat.zero_add, Nat.mul_one]); omega) | decide | (intros; simp_all; done) | (intros; simp_all; omega)) ?_
      refine ⟨n0 - 1, (i + 1, hd ++ [x]), [4, 1], by omega, ⟨by omega, by rw [List.length_append, hdl]; rfl⟩, ⟨by decide, rfl⟩, ⟨⟨rfl, rfl, e1⟩, (by show rowsC _ _ = rowsC _ _; rw [← e1]; exact congrArg (rowsC _) e2), trivial⟩, ?_⟩
      repeat' first | exact True.intro | exact rfl | exact ⟨rfl, rfl⟩ | refine And.intro ?_ ?_
    · try dsimp only [Ty.T] at h1
      try simp only [castL_self] at h1
      try simp only [Int.toNat_natCast] at h1
      try simp only [Int.toNat_zero] at h1
      have hit : i = t.length := by omega
      subst hit
      refine AWPD.exit ?_
      refine hK7 _ _ ?_
      clear hK7
      refine AWPD.seq fun K14 hK14 => ?_
      -- region 11
      refine AWPD.freeze 7 rfl rfl rfl ?_
      refine AWPD.freezeM (e := 3) (τ := .int) 7 1 (blurTo t hs t.length) rfl rfl rfl rfl ?_
      refine AWPD.keep [7] rfl ?_
      refine AWPD.region tabOK rfl ?_
      refine hK14 _ _ ?_
      clear hK14
      refine AWPD.ret (And.intro (.inl rfl) ?_)
      -- result 1
      exact ⟨fitS rfl (by rw [if_pos h0]; rfl), fitE rfl h0.symm⟩
end Go.Proofs.YtmeacgkhabnjlaaDoor
