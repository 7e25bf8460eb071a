/-
  WALKS of the document's answers on shares dealt and left, and of the law SplitSays. Laid by a program of mine out of the operations, with the loops and results told by hand.
-/
import Derived.Test.YtdikoipldcjcpaaDoorQwSs
namespace Go.Proofs.YtdikoipldcjcpaaDoor
open Go Go.Qw
set_option maxRecDepth 10000
set_option linter.unusedSimpArgs false
set_option linter.unusedVariables false
set_option linter.unusedSectionVars false


theorem at4_fn (p : Int) (l : List Sh) (x : Int) (g : GoodS p l) (hx : 0 ≤ x ∧ x ≤ p - 1) : LiftsD Tryd.prog 22 [.i p, .sl .two l, .i x] (.i (nevV p l x)) := by
  have key : ∀ n (l : List Sh), l.length ≤ n → GoodS p l → LiftsD Tryd.prog 22 [.i p, .sl .two l, .i x] (.i (nevV p l x)) := by
    intro n
    induction n with
    | zero => intro l hl g; have := g.some; omega
    | succ n ih => intro l hl g; exact at4_step p l x g hx fun K hK gK => ih K (by omega) gK
  exact key l.length l (Nat.le_refl _) g
theorem deal_1 {p s : Int} {rest : List Int} {m : Int} (hf : fieldE p = 0) (h : ¬(0 ≤ s ∧ s ≤ p - 1)) : dealE p s rest m = 1 := by
  have ha : allE p [s] = 1 := by unfold allE; rw [if_neg]; intro hh; exact h (hh s (by simp))
  unfold dealE
  rw [if_neg (by omega), if_pos (by omega), ha]
theorem all_one {p s : Int} (h : 0 ≤ s ∧ s ≤ p - 1) : allE p [s] = 0 := by
  unfold allE; rw [if_pos]; intro x hx; rw [List.mem_singleton.1 hx]; exact h
theorem all_or (p : Int) (l : List Int) : allE p l = 0 ∨ allE p l = 1 := by
  unfold allE
  split
  · exact .inl rfl
  · exact .inr rfl
theorem deal_4 {p s : Int} {rest : List Int} {m : Int} (hf : fieldE p = 0) (h : 0 ≤ s ∧ s ≤ p - 1) (hl : 12 ≤ rest.length) : dealE p s rest m = 4 := by
  unfold dealE
  rw [if_neg (by omega), if_neg (by rw [all_one h]; omega), if_pos hl]
theorem deal_1b {p s : Int} {rest : List Int} {m : Int} (hf : fieldE p = 0) (h : 0 ≤ s ∧ s ≤ p - 1) (hl : ¬12 ≤ rest.length) (hb : ¬(allE p rest = 0 ∧ (0 ≤ m ∧ m ≤ 12) ∧ m ≤ p - 1)) : dealE p s rest m = 1 := by
  unfold dealE
  rw [if_neg (by omega), if_neg (by rw [all_one h]; omega), if_neg hl]
  rcases all_or p rest with h0 | h0
  · rw [if_neg (by omega), if_neg]
    intro hh
    refine hb ⟨h0, ?_⟩
    split at hh <;> omega
  · rw [if_pos (by omega), h0]
theorem deal_0 {p s : Int} {rest : List Int} {m : Int} (hf : fieldE p = 0) (h : 0 ≤ s ∧ s ≤ p - 1) (hl : ¬12 ≤ rest.length) (hb : allE p rest = 0 ∧ (0 ≤ m ∧ m ≤ 12) ∧ m ≤ p - 1) : dealE p s rest m = 0 := by
  unfold dealE
  rw [if_neg (by omega), if_neg (by rw [all_one h]; omega), if_neg hl, if_neg (by omega), if_pos]
  split <;> omega
theorem deal_f {p s : Int} {rest : List Int} {m : Int} (hf : ¬fieldE p = 0) : dealE p s rest m = fieldE p := by unfold dealE; rw [if_pos hf]
theorem c2_t {a : Bool} {m q : Int} (h : (bif bif !a then true else !decide (0 ≤ m ∧ m ≤ 12) then true else decide (q < m)) = true) : ¬(a = true ∧ (0 ≤ m ∧ m ≤ 12) ∧ m ≤ q) := by
  rintro ⟨h1, h2, h3⟩
  rw [h1, decide_eq_true h2, decide_eq_false (by omega)] at h
  cases h
theorem c2_f {a : Bool} {m q : Int} (h : (bif bif !a then true else !decide (0 ≤ m ∧ m ≤ 12) then true else decide (q < m)) = false) : a = true ∧ (0 ≤ m ∧ m ≤ 12) ∧ m ≤ q := by
  cases a with
  | false => cases h
  | true =>
    simp at h
    exact ⟨rfl, by omega, by omega⟩
theorem gif_t {f : Int} {b : Bool} (h : (bif decide (f = 0) then b else false) = true) : f = 0 ∧ b = true := by
  by_cases h0 : f = 0
  · rw [decide_eq_true h0] at h; exact ⟨h0, h⟩
  · rw [decide_eq_false h0] at h; cases h
theorem gif_f {f : Int} {b : Bool} (h : (bif decide (f = 0) then b else false) = false) : f = 0 → b = false := fun h0 => by
  rw [decide_eq_true h0] at h; exact h
theorem dealL_few (p s : Int) (rest : List Int) (m : Int) : (dealL p s rest m).length ≤ 12 := by
  by_cases h : dealE p s rest m = 0
  · rw [dealL_ok h, dealT_len]
    have h9 := h
    unfold dealE at h9
    (repeat' split at h9) <;> omega
  · rw [dealL_no h]; simp
theorem leftV_few (p : Int) (l : List Sh) (need : Int) : (leftV p l need).length ≤ 31 := by
  by_cases h : leftE p l need = 0
  · have hs : sharesE p l = 0 := by
      unfold leftE at h
      split at h
      · omega
      · omega
    have g := shares_good hs
    have := g.p31
    unfold leftV
    rw [if_neg (by omega)]
    split
    · rw [List.length_replicate]; omega
    · split
      · rw [List.length_set, List.length_replicate]; omega
      · rw [List.length_replicate]; omega
  · rw [leftV_no h]; simp

theorem rdeal_fn (p s : Int) (rest : List Int) (m : Int) : LiftsD Tryd.prog 18 [.i p, .i s, .sl .int rest, .i m] (.tup [.sl .two (dealL p s rest m), .i (dealE p s rest m)]) := by
  refine LiftsD.of_body 90 [.tmp 8, .tmp 9] Tryd.func18 rfl Tryd.ntmps18 (by kernel_rfl) rfl rfl fun w0 X0 => ?_
  refine AWPD.seq fun K1 hK1 => ?_
  -- region 0
  refine AWPD.keep [0, 1, 2, 3] rfl ?_
  refine AWPD.region (tabOK.own [46]) rfl ?_
  refine hK1 _ _ ?_
  clear hK1
  refine AWPD.seq fun K2 hK2 => ?_
  -- region 1
  refine AWPD.keep [0, 1, 2, 3] rfl ?_
  refine AWPD.region (tabOK.own [46]) rfl ?_
  refine Exists.intro _ (Exists.intro _ (And.intro (StepD.call (rfield_fn _) rfl rfl rfl) (And.intro rfl (And.intro trivial ?_))))
  refine hK2 _ _ ?_
  clear hK2
  refine AWPD.seq fun K3 hK3 => ?_
  refine AWPD.seq fun K4 hK4 => ?_
  -- region 2
  refine AWPD.keep [0, 1, 2, 3, 10] rfl ?_
  refine AWPD.region (tabOK.own [46]) rfl ?_
  repeat refine And.intro (by first | (intro hg; first | exact absurd hg (by decide) | (have h9 : fieldE p = 0 := (by simp at hg; first | exact hg | exact hg.1 | exact hg.1.1); have h8 := fieldE_in h9; omega)) | exact fun h => h | exact fun _ => rfl | (intro h; rw [h]; rfl) | omega | (intros; (try dsimp only [Ty.T, Ty.size]); (try simp only [castL_self, Int.toNat_natCast, Int.toNat_zero, Int.toNat_one, true_and, List.length_append, List.length_set, List.length_drop, List.length_take, List.length_replicate, List.length_cons, List.length_nil, Nat.zero_add, Nat.mul_one]); omega) | decide | (intros; simp_all; done) | (intros; simp_all; omega)) ?_
  refine Exists.intro _ (Exists.intro _ (And.intro (fun hg => StepD.call (in4_fn _ _ _) rfl rfl rfl) (And.intro (fun hf => rfl) (And.intro rfl (And.intro trivial ?_)))))
  repeat refine And.intro (by first | (intro hg; first | exact absurd hg (by decide) | (have h9 : fieldE p = 0 := (by simp at hg; first | exact hg | exact hg.1 | exact hg.1.1); have h8 := fieldE_in h9; omega)) | exact fun h => h | exact fun _ => rfl | (intro h; rw [h]; rfl) | omega | (intros; (try dsimp only [Ty.T, Ty.size]); (try simp only [castL_self, Int.toNat_natCast, Int.toNat_zero, Int.toNat_one, true_and, List.length_append, List.length_set, List.length_drop, List.length_take, List.length_replicate, List.length_cons, List.length_nil, Nat.zero_add, Nat.mul_one]); omega) | decide | (intros; simp_all; done) | (intros; simp_all; omega)) ?_
  refine hK4 _ _ ?_
  clear hK4
  first | refine AWPD.cond rfl (fun h0 => ?_) (fun h0 => ?_)
  · try dsimp only [Ty.T] at h0
    try simp only [castL_self] at h0
    try simp only [Int.toNat_natCast] at h0
    try simp only [Int.toNat_zero] at h0
    have hc0 := gif_t h0
    have hf := hc0.1
    have hs : ¬(0 ≤ s ∧ s ≤ p - 1) := fun hh => by have := hc0.2; rw [decide_eq_true hh] at this; cases this
    have hE := deal_1 (rest := rest) (m := m) hf hs
    -- region 3
    refine AWPD.keep [0, 1, 2, 3] rfl ?_
    refine AWPD.region (tabOK.own [46]) rfl ?_
    refine hK3 _ _ ?_
    clear hK3
    refine AWPD.seq fun K5 hK5 => ?_
    refine AWPD.seq fun K6 hK6 => ?_
    -- region 4
    refine AWPD.keep [0, 1, 2, 3, 10] rfl ?_
    refine AWPD.region (tabOK.own [46]) rfl ?_
    repeat refine And.intro (by first | (intro hg; first | exact absurd hg (by decide) | (have h9 : fieldE p = 0 := (by simp at hg; first | exact hg | exact hg.1 | exact hg.1.1); have h8 := fieldE_in h9; omega)) | exact fun h => h | exact fun _ => rfl | (intro h; rw [h]; rfl) | omega | (intros; (try dsimp only [Ty.T, Ty.size]); (try simp only [castL_self, Int.toNat_natCast, Int.toNat_zero, Int.toNat_one, true_and, List.length_append, List.length_set, List.length_drop, List.length_take, List.length_replicate, List.length_cons, List.length_nil, Nat.zero_add, Nat.mul_one]); omega) | decide | (intros; simp_all; done) | (intros; simp_all; omega)) ?_
    refine hK6 _ _ ?_
    clear hK6
    first | refine AWPD.cond rfl (fun h1 => ?_) (fun h1 => ?_)
    · try dsimp only [Ty.T] at h1
      try simp only [castL_self] at h1
      try simp only [Int.toNat_natCast] at h1
      try simp only [Int.toNat_zero] at h1
      try (simp at h1; done)
      all_goals
        have hc1 := gif_t h1
        have hf := hc1.1
        have hl12 : 12 ≤ rest.length := by have := of_decide_eq_true hc1.2; omega
        have hE := deal_4 (m := m) hf (hs hf) hl12
        -- region 5
        refine AWPD.keep [0, 1, 2, 3] rfl ?_
        refine AWPD.region (tabOK.own [46]) rfl ?_
        refine hK5 _ _ ?_
        clear hK5
        refine AWPD.seq fun K7 hK7 => ?_
        refine AWPD.seq fun K8 hK8 => ?_
        -- region 6
        refine AWPD.keep [0, 1, 2, 3, 10] rfl ?_
        refine AWPD.region (tabOK.own [46]) rfl ?_
        repeat refine And.intro (by first | (intro hg; first | exact absurd hg (by decide) | (have h9 : fieldE p = 0 := (by simp at hg; first | exact hg | exact hg.1 | exact hg.1.1); have h8 := fieldE_in h9; omega)) | exact fun h => h | exact fun _ => rfl | (intro h; rw [h]; rfl) | omega | (intros; (try dsimp only [Ty.T, Ty.size]); (try simp only [castL_self, Int.toNat_natCast, Int.toNat_zero, Int.toNat_one, true_and, List.length_append, List.length_set, List.length_drop, List.length_take, List.length_replicate, List.length_cons, List.length_nil, Nat.zero_add, Nat.mul_one]); omega) | decide | (intros; simp_all; done) | (intros; simp_all; omega)) ?_
        refine Exists.intro _ (Exists.intro _ (And.intro (fun hg => StepD.call (rall_fn p rest (by first | exact absurd hg (by decide) | (have h9 : fieldE p = 0 := (by simp at hg; first | exact hg | exact hg.1 | exact hg.1.1); have h8 := fieldE_in h9; omega)) (by first | exact absurd hg (by decide) | (have h9 : fieldE p = 0 := (by simp at hg; first | exact hg | exact hg.1 | exact hg.1.1); have h8 := hl12 h9; omega))) rfl rfl rfl) (And.intro (fun hf => rfl) (And.intro rfl (And.intro trivial ?_)))))
        repeat refine And.intro (by first | (intro hg; first | exact absurd hg (by decide) | (have h9 : fieldE p = 0 := (by simp at hg; first | exact hg | exact hg.1 | exact hg.1.1); have h8 := fieldE_in h9; omega)) | exact fun h => h | exact fun _ => rfl | (intro h; rw [h]; rfl) | omega | (intros; (try dsimp only [Ty.T, Ty.size]); (try simp only [castL_self, Int.toNat_natCast, Int.toNat_zero, Int.toNat_one, true_and, List.length_append, List.length_set, List.length_drop, List.length_take, List.length_replicate, List.length_cons, List.length_nil, Nat.zero_add, Nat.mul_one]); omega) | decide | (intros; simp_all; done) | (intros; simp_all; omega)) ?_
        refine Exists.intro _ (Exists.intro _ (And.intro (fun hg => StepD.call (in4_fn _ _ _) rfl rfl rfl) (And.intro (fun hf => rfl) (And.intro rfl (And.intro trivial ?_)))))
        repeat refine And.intro (by first | (intro hg; first | exact absurd hg (by decide) | (have h9 : fieldE p = 0 := (by simp at hg; first | exact hg | exact hg.1 | exact hg.1.1); have h8 := fieldE_in h9; omega)) | exact fun h => h | exact fun _ => rfl | (intro h; rw [h]; rfl) | omega | (intros; (try dsimp only [Ty.T, Ty.size]); (try simp only [castL_self, Int.toNat_natCast, Int.toNat_zero, Int.toNat_one, true_and, List.length_append, List.length_set, List.length_drop, List.length_take, List.length_replicate, List.length_cons, List.length_nil, Nat.zero_add, Nat.mul_one]); omega) | decide | (intros; simp_all; done) | (intros; simp_all; omega)) ?_
        refine hK8 _ _ ?_
        clear hK8
        first | refine AWPD.cond rfl (fun h2 => ?_) (fun h2 => ?_)
        · try dsimp only [Ty.T] at h2
          try simp only [castL_self] at h2
          try simp only [Int.toNat_natCast] at h2
          try simp only [Int.toNat_zero] at h2
          try (simp at h2; done)
          all_goals
            have hc2 := gif_t h2
            have hf := hc2.1
            have hb2 := c2_t hc2.2
            rw [decide_eq_true_eq] at hb2
            have hE := deal_1b hf (hs hf) (hl12 hf) hb2
            -- region 7
            refine AWPD.keep [0, 1, 2, 3] rfl ?_
            refine AWPD.region (tabOK.own [46]) rfl ?_
            refine hK7 _ _ ?_
            clear hK7
            refine AWPD.seq fun K9 hK9 => ?_
            refine AWPD.seq fun K10 hK10 => ?_
            -- region 8
            refine AWPD.keep [0, 1, 2, 3, 10] rfl ?_
            refine AWPD.region (tabOK.own [46]) rfl ?_
            refine hK10 _ _ ?_
            clear hK10
            first | refine AWPD.condP rfl (fun h3 => ?_) (fun h3 => ?_) | refine AWPD.condN rfl (fun h3 => ?_) (fun h3 => ?_) | refine AWPD.condAP rfl (fun h3 => ?_) (fun h3 => ?_) | refine AWPD.condOP rfl (fun h3 => ?_) (fun h3 => ?_) | refine AWPD.condONN rfl (fun h3 => ?_) (fun h3 => ?_) | refine AWPD.condOPN rfl (fun h3 => ?_) (fun h3 => ?_) | refine AWPD.condA rfl (fun h3 => ?_) (fun h3 => ?_) | refine AWPD.condO rfl (fun h3 => ?_) (fun h3 => ?_) | refine AWPD.cond rfl (fun h3 => ?_) (fun h3 => ?_)
            · try dsimp only [Ty.T] at h3
              try simp only [castL_self] at h3
              try simp only [Int.toNat_natCast] at h3
              try simp only [Int.toNat_zero] at h3
              try have hE := deal_f (s := s) (rest := rest) (m := m) h3
              refine AWPD.seq fun K11 hK11 => ?_
              -- region 9
              refine AWPD.keep [10] rfl ?_
              refine AWPD.region (tabOK.own [46]) rfl ?_
              refine hK11 _ _ ?_
              clear hK11
              refine AWPD.ret (And.intro (.inl rfl) ?_)
              -- result 0
              first
                | exact ⟨fitN rfl (by first | (unfold dealL; rw [hE]; rfl) | (unfold dealL; rw [hE, if_neg h3])) (by decide), fitI rfl hE.symm⟩
                | exact ⟨fitR rfl rfl (by unfold dealL; rw [if_pos hE, hkm]), fitI rfl hE.symm⟩
            · try dsimp only [Ty.T] at h3
              try simp only [castL_self] at h3
              try simp only [Int.toNat_natCast] at h3
              try simp only [Int.toNat_zero] at h3
              try (exact absurd (by decide) h3; done)
              all_goals
                have hf : fieldE p = 0 := by omega
                have hp := fieldE_in hf
                have hs := hs hf
                have hl12 := hl12 hf
                have hb := hb hf
                rw [decide_eq_true_eq] at hb
                have hE := deal_0 hf hs hl12 hb
                have hrin := allE_in hb.1
                refine AWPD.skip ?_
                refine hK9 _ _ ?_
                clear hK9
                refine AWPD.seq fun K12 hK12 => ?_
                -- region 10
                refine AWPD.keep [0, 1, 2, 3] rfl ?_
                refine AWPD.region (tabOK.own [46]) rfl ?_
                refine hK12 _ _ ?_
                clear hK12
                refine AWPD.seq fun K13 hK13 => ?_
                refine AWPD.seq fun K14 hK14 => ?_
                -- region 11
                refine AWPD.keep [0, 1, 2, 3, 11] rfl ?_
                refine AWPD.region (tabOK.own [46]) rfl ?_
                refine hK14 _ _ ?_
                clear hK14
                refine AWPD.block ?_
                -- LOOP 0 live [0, 1, 2, 3, 11, 12] changed [11, 12]
                refine AWPD.nilRow 11 61 .two rfl (by decide) ?_
                refine AWPD.loopK (σ := Nat) [0, 1, 2, 3] (fun k base => (11, .ob 0) :: (12, .i ((k : Int) + 1)) :: base) (fun k => [.row 61 .two (dealT p (s :: rest) k)]) (fun n k => n + k = m.toNat) (m.toNat) 0 [0] rfl rfl (by omega) (by decide) ⟨⟨rfl, rfl, rfl⟩, trivial⟩ (by repeat' first | exact True.intro | exact rfl | exact ⟨rfl, rfl⟩ | refine And.intro ?_ ?_) fun n0 k hI0 => ?_
                have hn0 := hI0
                have hlen : (dealT p (s :: rest) k).length = k := by simp [dealT]
                refine AWPD.seq fun K15 hK15 => ?_
                refine AWPD.seq fun K16 hK16 => ?_
                -- region 12
                refine AWPD.keep [0, 1, 2, 3, 11, 12] rfl ?_
                refine AWPD.region (tabOK.own [46]) rfl ?_
                refine hK16 _ _ ?_
                clear hK16
                first | refine AWPD.condP rfl (fun h4 => ?_) (fun h4 => ?_) | refine AWPD.condN rfl (fun h4 => ?_) (fun h4 => ?_) | refine AWPD.condAP rfl (fun h4 => ?_) (fun h4 => ?_) | refine AWPD.condOP rfl (fun h4 => ?_) (fun h4 => ?_) | refine AWPD.condONN rfl (fun h4 => ?_) (fun h4 => ?_) | refine AWPD.condOPN rfl (fun h4 => ?_) (fun h4 => ?_) | refine AWPD.condA rfl (fun h4 => ?_) (fun h4 => ?_) | refine AWPD.condO rfl (fun h4 => ?_) (fun h4 => ?_) | refine AWPD.cond rfl (fun h4 => ?_) (fun h4 => ?_)
                · try dsimp only [Ty.T] at h4
                  try simp only [castL_self] at h4
                  try simp only [Int.toNat_natCast] at h4
                  try simp only [Int.toNat_zero] at h4
                  have hkm : k < m.toNat := by omega
                  refine AWPD.skip ?_
                  refine hK15 _ _ ?_
                  clear hK15
                  refine AWPD.seq fun K17 hK17 => ?_
                  refine AWPD.block ?_
                  refine AWPD.seq fun K18 hK18 => ?_
                  -- region 14
                  refine AWPD.keep [0, 1, 2, 3, 11, 12] rfl ?_
                  refine AWPD.region (tabOK.own [46]) rfl ?_
                  refine hK18 _ _ ?_
                  clear hK18
                  refine AWPD.seq fun K19 hK19 => ?_
                  -- region 15
                  refine AWPD.keep [0, 1, 2, 3, 11, 12, 13] rfl ?_
                  refine AWPD.region (tabOK.own [46]) rfl ?_
                  refine hK19 _ _ ?_
                  clear hK19
                  refine AWPD.seq fun K20 hK20 => ?_
                  refine AWPD.seq fun K21 hK21 => ?_
                  -- region 16
                  refine AWPD.keep [0, 1, 2, 3, 11, 12, 13, 14] rfl ?_
                  refine AWPD.region (tabOK.own [46]) rfl ?_
                  refine hK21 _ _ ?_
                  clear hK21
                  refine AWPD.block ?_
                  -- LOOP 1 live [0, 1, 2, 3, 11, 12, 13, 14, 15] changed [13, 14, 15]
                  refine AWPD.loopK (σ := Nat) [0, 1, 2, 3, 12] (fun i base => (11, .ob 0) :: (13, .i (docV p ((k : Int) + 1) s rest i)) :: (14, .i (pwV p ((k : Int) + 1) i)) :: (15, .i (i : Int)) :: base) (fun i => [.row 61 .two (dealT p (s :: rest) k)]) (fun n i => n + i = rest.length) (rest.length) 0 [0] rfl rfl (by omega) (by decide) ⟨⟨rfl, rfl, rfl⟩, trivial⟩ (by repeat' first | exact True.intro | exact rfl | exact ⟨rfl, rfl⟩ | refine And.intro ?_ ?_) fun n1 i hI1 => ?_
                  have hn1 := hI1
                  have hdi := docV_in (x := (k : Int) + 1) (rest := rest) hp.1 hs i
                  have hpi := pwV_in (x := (k : Int) + 1) hp.1 i
                  refine AWPD.seq fun K22 hK22 => ?_
                  refine AWPD.seq fun K23 hK23 => ?_
                  -- region 17
                  refine AWPD.keep [0, 1, 2, 3, 11, 12, 13, 14, 15] rfl ?_
                  refine AWPD.region (tabOK.own [46]) rfl ?_
                  refine hK23 _ _ ?_
                  clear hK23
                  first | refine AWPD.condP rfl (fun h5 => ?_) (fun h5 => ?_) | refine AWPD.condN rfl (fun h5 => ?_) (fun h5 => ?_) | refine AWPD.condAP rfl (fun h5 => ?_) (fun h5 => ?_) | refine AWPD.condOP rfl (fun h5 => ?_) (fun h5 => ?_) | refine AWPD.condONN rfl (fun h5 => ?_) (fun h5 => ?_) | refine AWPD.condOPN rfl (fun h5 => ?_) (fun h5 => ?_) | refine AWPD.condA rfl (fun h5 => ?_) (fun h5 => ?_) | refine AWPD.condO rfl (fun h5 => ?_) (fun h5 => ?_) | refine AWPD.cond rfl (fun h5 => ?_) (fun h5 => ?_)
                  · try dsimp only [Ty.T] at h5
                    try simp only [castL_self] at h5
                    try simp only [Int.toNat_natCast] at h5
                    try simp only [Int.toNat_zero] at h5
                    have hil : i < rest.length := by omega
                    have hri := hrin _ (getD_mem hil 0)
                    have hpn := pwV_in (x := (k : Int) + 1) hp.1 (i + 1)
                    have hm1 := mul_b (a := pwV p ((k : Int) + 1) i) (b := (k : Int) + 1) (by omega) (by omega)
                    have hm2 := mul_b (a := rest.getD i 0) (b := pwV p ((k : Int) + 1) (i + 1)) (by omega) (by omega)
                    have hm0 : 0 ≤ rest.getD i 0 * pwV p ((k : Int) + 1) (i + 1) := Int.mul_nonneg (by omega) (by omega)
                    have hm9 : 0 ≤ pwV p ((k : Int) + 1) i * ((k : Int) + 1) := Int.mul_nonneg (by omega) (by omega)
                    have hpe : pwV p ((k : Int) + 1) i * ((k : Int) + 1) % p = pwV p ((k : Int) + 1) (i + 1) := rfl
                    refine AWPD.skip ?_
                    refine hK22 _ _ ?_
                    clear hK22
                    refine AWPD.seq fun K24 hK24 => ?_
                    refine AWPD.block ?_
                    refine AWPD.seq fun K25 hK25 => ?_
                    -- region 19
                    refine AWPD.keep [0, 1, 2, 3, 11, 12, 13, 14, 15] rfl ?_
                    refine AWPD.region (tabOK.own [46]) rfl ?_
                    repeat refine And.intro (by first | (intro hg; first | exact absurd hg (by decide) | (have h9 : fieldE p = 0 := (by simp at hg; first | exact hg | exact hg.1 | exact hg.1.1); have h8 := fieldE_in h9; omega)) | exact fun h => h | exact fun _ => rfl | (intro h; rw [h]; rfl) | omega | (intros; (try dsimp only [Ty.T, Ty.size]); (try simp only [castL_self, Int.toNat_natCast, Int.toNat_zero, Int.toNat_one, true_and, List.length_append, List.length_set, List.length_drop, List.length_take, List.length_replicate, List.length_cons, List.length_nil, Nat.zero_add, Nat.mul_one]); omega) | decide | (intros; simp_all; done) | (intros; simp_all; omega)) ?_
                    refine hK25 _ _ ?_
                    clear hK25
                    -- region 20
                    rw [hpe]
                    refine AWPD.keep [0, 1, 2, 3, 11, 12, 13, 14, 15] rfl ?_
                    refine AWPD.region (tabOK.own [46]) rfl ?_
                    repeat refine And.intro (by first | (intro hg; first | exact absurd hg (by decide) | (have h9 : fieldE p = 0 := (by simp at hg; first | exact hg | exact hg.1 | exact hg.1.1); have h8 := fieldE_in h9; omega)) | exact fun h => h | exact fun _ => rfl | (intro h; rw [h]; rfl) | omega | (intros; (try dsimp only [Ty.T, Ty.size]); (try simp only [castL_self, Int.toNat_natCast, Int.toNat_zero, Int.toNat_one, true_and, List.length_append, List.length_set, List.length_drop, List.length_take, List.length_replicate, List.length_cons, List.length_nil, Nat.zero_add, Nat.mul_one]); omega) | decide | (intros; simp_all; done) | (intros; simp_all; omega)) ?_
                    refine hK24 _ _ ?_
                    clear hK24
                    -- region 18
                    refine AWPD.keep [0, 1, 2, 3, 11, 12, 13, 14, 15] rfl ?_
                    refine AWPD.region (tabOK.own [46]) rfl ?_
                    repeat refine And.intro (by first | (intro hg; first | exact absurd hg (by decide) | (have h9 : fieldE p = 0 := (by simp at hg; first | exact hg | exact hg.1 | exact hg.1.1); have h8 := fieldE_in h9; omega)) | exact fun h => h | exact fun _ => rfl | (intro h; rw [h]; rfl) | omega | (intros; (try dsimp only [Ty.T, Ty.size]); (try simp only [castL_self, Int.toNat_natCast, Int.toNat_zero, Int.toNat_one, true_and, List.length_append, List.length_set, List.length_drop, List.length_take, List.length_replicate, List.length_cons, List.length_nil, Nat.zero_add, Nat.mul_one]); omega) | decide | (intros; simp_all; done) | (intros; simp_all; omega)) ?_
                    refine ⟨n1 - 1, i + 1, [0], by omega, by omega, ⟨by decide, rfl⟩, ⟨⟨rfl, rfl, rfl⟩, trivial⟩, ?_⟩
                    repeat' first | exact True.intro | exact rfl | exact ⟨rfl, rfl⟩ | refine And.intro ?_ ?_
                  · try dsimp only [Ty.T] at h5
                    try simp only [castL_self] at h5
                    try simp only [Int.toNat_natCast] at h5
                    try simp only [Int.toNat_zero] at h5
                    have hil : i = rest.length := by omega
                    have hda : docV p ((k : Int) + 1) s rest i = atV p ((k : Int) + 1) (s :: rest) := by rw [hil]; exact docV_all hp.1 hs
                    refine AWPD.exit ?_
                    refine hK20 _ _ ?_
                    clear hK20
                    -- region 21
                    refine AWPD.keep [0, 1, 2, 3, 11, 12, 13] rfl ?_
                    refine AWPD.region (tabOK.own [46]) rfl ?_
                    repeat refine And.intro (by first | (intro hg; first | exact absurd hg (by decide) | (have h9 : fieldE p = 0 := (by simp at hg; first | exact hg | exact hg.1 | exact hg.1.1); have h8 := fieldE_in h9; omega)) | exact fun h => h | exact fun _ => rfl | (intro h; rw [h]; rfl) | omega | (intros; (try dsimp only [Ty.T, Ty.size]); (try simp only [castL_self, Int.toNat_natCast, Int.toNat_zero, Int.toNat_one, true_and, List.length_append, List.length_set, List.length_drop, List.length_take, List.length_replicate, List.length_cons, List.length_nil, Nat.zero_add, Nat.mul_one]); omega) | decide | (intros; simp_all; done) | (intros; simp_all; omega)) ?_
                    refine hK17 _ _ ?_
                    clear hK17
                    -- region 13
                    refine AWPD.keep [0, 1, 2, 3, 11, 12] rfl ?_
                    refine AWPD.region (tabOK.own [46]) rfl ?_
                    repeat refine And.intro (by first | (intro hg; first | exact absurd hg (by decide) | (have h9 : fieldE p = 0 := (by simp at hg; first | exact hg | exact hg.1 | exact hg.1.1); have h8 := fieldE_in h9; omega)) | exact fun h => h | exact fun _ => rfl | (intro h; rw [h]; rfl) | omega | (intros; (try dsimp only [Ty.T, Ty.size]); (try simp only [castL_self, Int.toNat_natCast, Int.toNat_zero, Int.toNat_one, true_and, List.length_append, List.length_set, List.length_drop, List.length_take, List.length_replicate, List.length_cons, List.length_nil, Nat.zero_add, Nat.mul_one]); omega) | decide | (intros; simp_all; done) | (intros; simp_all; omega)) ?_
                    refine ⟨n0 - 1, k + 1, [1], by omega, by omega, ⟨by decide, rfl⟩, ⟨⟨rfl, rfl, (by rw [← dealT_step]; show dealT p (s :: rest) k ++ [((k : Int) + 1, docV p ((k : Int) + 1) s rest i)] = _; rw [hda])⟩, trivial⟩, ?_⟩
                    repeat' first | exact True.intro | exact rfl | exact ⟨rfl, rfl⟩ | refine And.intro ?_ ?_
                · try dsimp only [Ty.T] at h4
                  try simp only [castL_self] at h4
                  try simp only [Int.toNat_natCast] at h4
                  try simp only [Int.toNat_zero] at h4
                  have hkm : k = m.toNat := by omega
                  refine AWPD.exit ?_
                  refine hK13 _ _ ?_
                  clear hK13
                  refine AWPD.seq fun K26 hK26 => ?_
                  -- region 22
                  refine AWPD.keep [11] rfl ?_
                  refine AWPD.region (tabOK.own [46]) rfl ?_
                  refine hK26 _ _ ?_
                  clear hK26
                  refine AWPD.ret (And.intro (.inl rfl) ?_)
                  -- result 1
                  first
                    | exact ⟨fitN rfl (by first | (unfold dealL; rw [hE]; rfl) | (unfold dealL; rw [hE, if_neg h3])) (by decide), fitI rfl hE.symm⟩
                    | exact ⟨fitR rfl rfl (by unfold dealL; rw [if_pos hE, hkm]), fitI rfl hE.symm⟩
        · try dsimp only [Ty.T] at h2
          try simp only [castL_self] at h2
          try simp only [Int.toNat_natCast] at h2
          try simp only [Int.toNat_zero] at h2
          first | have hb : fieldE p = 0 → _ := fun hh => c2_f (gif_f h2 hh) | skip
          refine AWPD.skip ?_
          refine hK7 _ _ ?_
          clear hK7
          refine AWPD.seq fun K27 hK27 => ?_
          refine AWPD.seq fun K28 hK28 => ?_
          -- region 8
          refine AWPD.keep [0, 1, 2, 3, 10] rfl ?_
          refine AWPD.region (tabOK.own [46]) rfl ?_
          refine hK28 _ _ ?_
          clear hK28
          first | refine AWPD.condP rfl (fun h3 => ?_) (fun h3 => ?_) | refine AWPD.condN rfl (fun h3 => ?_) (fun h3 => ?_) | refine AWPD.condAP rfl (fun h3 => ?_) (fun h3 => ?_) | refine AWPD.condOP rfl (fun h3 => ?_) (fun h3 => ?_) | refine AWPD.condONN rfl (fun h3 => ?_) (fun h3 => ?_) | refine AWPD.condOPN rfl (fun h3 => ?_) (fun h3 => ?_) | refine AWPD.condA rfl (fun h3 => ?_) (fun h3 => ?_) | refine AWPD.condO rfl (fun h3 => ?_) (fun h3 => ?_) | refine AWPD.cond rfl (fun h3 => ?_) (fun h3 => ?_)
          · try dsimp only [Ty.T] at h3
            try simp only [castL_self] at h3
            try simp only [Int.toNat_natCast] at h3
            try simp only [Int.toNat_zero] at h3
            try have hE := deal_f (s := s) (rest := rest) (m := m) h3
            refine AWPD.seq fun K29 hK29 => ?_
            -- region 9
            refine AWPD.keep [10] rfl ?_
            refine AWPD.region (tabOK.own [46]) rfl ?_
            refine hK29 _ _ ?_
            clear hK29
            refine AWPD.ret (And.intro (.inl rfl) ?_)
            -- result 2
            first
              | exact ⟨fitN rfl (by first | (unfold dealL; rw [hE]; rfl) | (unfold dealL; rw [hE, if_neg h3])) (by decide), fitI rfl hE.symm⟩
              | exact ⟨fitR rfl rfl (by unfold dealL; rw [if_pos hE, hkm]), fitI rfl hE.symm⟩
          · try dsimp only [Ty.T] at h3
            try simp only [castL_self] at h3
            try simp only [Int.toNat_natCast] at h3
            try simp only [Int.toNat_zero] at h3
            try (exact absurd (by decide) h3; done)
            all_goals
              have hf : fieldE p = 0 := by omega
              have hp := fieldE_in hf
              have hs := hs hf
              have hl12 := hl12 hf
              have hb := hb hf
              rw [decide_eq_true_eq] at hb
              have hE := deal_0 hf hs hl12 hb
              have hrin := allE_in hb.1
              refine AWPD.skip ?_
              refine hK27 _ _ ?_
              clear hK27
              refine AWPD.seq fun K30 hK30 => ?_
              -- region 10
              refine AWPD.keep [0, 1, 2, 3] rfl ?_
              refine AWPD.region (tabOK.own [46]) rfl ?_
              refine hK30 _ _ ?_
              clear hK30
              refine AWPD.seq fun K31 hK31 => ?_
              refine AWPD.seq fun K32 hK32 => ?_
              -- region 11
              refine AWPD.keep [0, 1, 2, 3, 11] rfl ?_
              refine AWPD.region (tabOK.own [46]) rfl ?_
              refine hK32 _ _ ?_
              clear hK32
              refine AWPD.block ?_
              -- LOOP 0 live [0, 1, 2, 3, 11, 12] changed [11, 12]
              refine AWPD.nilRow 11 61 .two rfl (by decide) ?_
              refine AWPD.loopK (σ := Nat) [0, 1, 2, 3] (fun k base => (11, .ob 0) :: (12, .i ((k : Int) + 1)) :: base) (fun k => [.row 61 .two (dealT p (s :: rest) k)]) (fun n k => n + k = m.toNat) (m.toNat) 0 [0] rfl rfl (by omega) (by decide) ⟨⟨rfl, rfl, rfl⟩, trivial⟩ (by repeat' first | exact True.intro | exact rfl | exact ⟨rfl, rfl⟩ | refine And.intro ?_ ?_) fun n0 k hI0 => ?_
              have hn0 := hI0
              have hlen : (dealT p (s :: rest) k).length = k := by simp [dealT]
              refine AWPD.seq fun K33 hK33 => ?_
              refine AWPD.seq fun K34 hK34 => ?_
              -- region 12
              refine AWPD.keep [0, 1, 2, 3, 11, 12] rfl ?_
              refine AWPD.region (tabOK.own [46]) rfl ?_
              refine hK34 _ _ ?_
              clear hK34
              first | refine AWPD.condP rfl (fun h4 => ?_) (fun h4 => ?_) | refine AWPD.condN rfl (fun h4 => ?_) (fun h4 => ?_) | refine AWPD.condAP rfl (fun h4 => ?_) (fun h4 => ?_) | refine AWPD.condOP rfl (fun h4 => ?_) (fun h4 => ?_) | refine AWPD.condONN rfl (fun h4 => ?_) (fun h4 => ?_) | refine AWPD.condOPN rfl (fun h4 => ?_) (fun h4 => ?_) | refine AWPD.condA rfl (fun h4 => ?_) (fun h4 => ?_) | refine AWPD.condO rfl (fun h4 => ?_) (fun h4 => ?_) | refine AWPD.cond rfl (fun h4 => ?_) (fun h4 => ?_)
              · try dsimp only [Ty.T] at h4
                try simp only [castL_self] at h4
                try simp only [Int.toNat_natCast] at h4
                try simp only [Int.toNat_zero] at h4
                have hkm : k < m.toNat := by omega
                refine AWPD.skip ?_
                refine hK33 _ _ ?_
                clear hK33
                refine AWPD.seq fun K35 hK35 => ?_
                refine AWPD.block ?_
                refine AWPD.seq fun K36 hK36 => ?_
                -- region 14
                refine AWPD.keep [0, 1, 2, 3, 11, 12] rfl ?_
                refine AWPD.region (tabOK.own [46]) rfl ?_
                refine hK36 _ _ ?_
                clear hK36
                refine AWPD.seq fun K37 hK37 => ?_
                -- region 15
                refine AWPD.keep [0, 1, 2, 3, 11, 12, 13] rfl ?_
                refine AWPD.region (tabOK.own [46]) rfl ?_
                refine hK37 _ _ ?_
                clear hK37
                refine AWPD.seq fun K38 hK38 => ?_
                refine AWPD.seq fun K39 hK39 => ?_
                -- region 16
                refine AWPD.keep [0, 1, 2, 3, 11, 12, 13, 14] rfl ?_
                refine AWPD.region (tabOK.own [46]) rfl ?_
                refine hK39 _ _ ?_
                clear hK39
                refine AWPD.block ?_
                -- LOOP 1 live [0, 1, 2, 3, 11, 12, 13, 14, 15] changed [13, 14, 15]
                refine AWPD.loopK (σ := Nat) [0, 1, 2, 3, 12] (fun i base => (11, .ob 0) :: (13, .i (docV p ((k : Int) + 1) s rest i)) :: (14, .i (pwV p ((k : Int) + 1) i)) :: (15, .i (i : Int)) :: base) (fun i => [.row 61 .two (dealT p (s :: rest) k)]) (fun n i => n + i = rest.length) (rest.length) 0 [0] rfl rfl (by omega) (by decide) ⟨⟨rfl, rfl, rfl⟩, trivial⟩ (by repeat' first | exact True.intro | exact rfl | exact ⟨rfl, rfl⟩ | refine And.intro ?_ ?_) fun n1 i hI1 => ?_
                have hn1 := hI1
                have hdi := docV_in (x := (k : Int) + 1) (rest := rest) hp.1 hs i
                have hpi := pwV_in (x := (k : Int) + 1) hp.1 i
                refine AWPD.seq fun K40 hK40 => ?_
                refine AWPD.seq fun K41 hK41 => ?_
                -- region 17
                refine AWPD.keep [0, 1, 2, 3, 11, 12, 13, 14, 15] rfl ?_
                refine AWPD.region (tabOK.own [46]) rfl ?_
                refine hK41 _ _ ?_
                clear hK41
                first | refine AWPD.condP rfl (fun h5 => ?_) (fun h5 => ?_) | refine AWPD.condN rfl (fun h5 => ?_) (fun h5 => ?_) | refine AWPD.condAP rfl (fun h5 => ?_) (fun h5 => ?_) | refine AWPD.condOP rfl (fun h5 => ?_) (fun h5 => ?_) | refine AWPD.condONN rfl (fun h5 => ?_) (fun h5 => ?_) | refine AWPD.condOPN rfl (fun h5 => ?_) (fun h5 => ?_) | refine AWPD.condA rfl (fun h5 => ?_) (fun h5 => ?_) | refine AWPD.condO rfl (fun h5 => ?_) (fun h5 => ?_) | refine AWPD.cond rfl (fun h5 => ?_) (fun h5 => ?_)
                · try dsimp only [Ty.T] at h5
                  try simp only [castL_self] at h5
                  try simp only [Int.toNat_natCast] at h5
                  try simp only [Int.toNat_zero] at h5
                  have hil : i < rest.length := by omega
                  have hri := hrin _ (getD_mem hil 0)
                  have hpn := pwV_in (x := (k : Int) + 1) hp.1 (i + 1)
                  have hm1 := mul_b (a := pwV p ((k : Int) + 1) i) (b := (k : Int) + 1) (by omega) (by omega)
                  have hm2 := mul_b (a := rest.getD i 0) (b := pwV p ((k : Int) + 1) (i + 1)) (by omega) (by omega)
                  have hm0 : 0 ≤ rest.getD i 0 * pwV p ((k : Int) + 1) (i + 1) := Int.mul_nonneg (by omega) (by omega)
                  have hm9 : 0 ≤ pwV p ((k : Int) + 1) i * ((k : Int) + 1) := Int.mul_nonneg (by omega) (by omega)
                  have hpe : pwV p ((k : Int) + 1) i * ((k : Int) + 1) % p = pwV p ((k : Int) + 1) (i + 1) := rfl
                  refine AWPD.skip ?_
                  refine hK40 _ _ ?_
                  clear hK40
                  refine AWPD.seq fun K42 hK42 => ?_
                  refine AWPD.block ?_
                  refine AWPD.seq fun K43 hK43 => ?_
                  -- region 19
                  refine AWPD.keep [0, 1, 2, 3, 11, 12, 13, 14, 15] rfl ?_
                  refine AWPD.region (tabOK.own [46]) rfl ?_
                  repeat refine And.intro (by first | (intro hg; first | exact absurd hg (by decide) | (have h9 : fieldE p = 0 := (by simp at hg; first | exact hg | exact hg.1 | exact hg.1.1); have h8 := fieldE_in h9; omega)) | exact fun h => h | exact fun _ => rfl | (intro h; rw [h]; rfl) | omega | (intros; (try dsimp only [Ty.T, Ty.size]); (try simp only [castL_self, Int.toNat_natCast, Int.toNat_zero, Int.toNat_one, true_and, List.length_append, List.length_set, List.length_drop, List.length_take, List.length_replicate, List.length_cons, List.length_nil, Nat.zero_add, Nat.mul_one]); omega) | decide | (intros; simp_all; done) | (intros; simp_all; omega)) ?_
                  refine hK43 _ _ ?_
                  clear hK43
                  -- region 20
                  rw [hpe]
                  refine AWPD.keep [0, 1, 2, 3, 11, 12, 13, 14, 15] rfl ?_
                  refine AWPD.region (tabOK.own [46]) rfl ?_
                  repeat refine And.intro (by first | (intro hg; first | exact absurd hg (by decide) | (have h9 : fieldE p = 0 := (by simp at hg; first | exact hg | exact hg.1 | exact hg.1.1); have h8 := fieldE_in h9; omega)) | exact fun h => h | exact fun _ => rfl | (intro h; rw [h]; rfl) | omega | (intros; (try dsimp only [Ty.T, Ty.size]); (try simp only [castL_self, Int.toNat_natCast, Int.toNat_zero, Int.toNat_one, true_and, List.length_append, List.length_set, List.length_drop, List.length_take, List.length_replicate, List.length_cons, List.length_nil, Nat.zero_add, Nat.mul_one]); omega) | decide | (intros; simp_all; done) | (intros; simp_all; omega)) ?_
                  refine hK42 _ _ ?_
                  clear hK42
                  -- region 18
                  refine AWPD.keep [0, 1, 2, 3, 11, 12, 13, 14, 15] rfl ?_
                  refine AWPD.region (tabOK.own [46]) rfl ?_
                  repeat refine And.intro (by first | (intro hg; first | exact absurd hg (by decide) | (have h9 : fieldE p = 0 := (by simp at hg; first | exact hg | exact hg.1 | exact hg.1.1); have h8 := fieldE_in h9; omega)) | exact fun h => h | exact fun _ => rfl | (intro h; rw [h]; rfl) | omega | (intros; (try dsimp only [Ty.T, Ty.size]); (try simp only [castL_self, Int.toNat_natCast, Int.toNat_zero, Int.toNat_one, true_and, List.length_append, List.length_set, List.length_drop, List.length_take, List.length_replicate, List.length_cons, List.length_nil, Nat.zero_add, Nat.mul_one]); omega) | decide | (intros; simp_all; done) | (intros; simp_all; omega)) ?_
                  refine ⟨n1 - 1, i + 1, [0], by omega, by omega, ⟨by decide, rfl⟩, ⟨⟨rfl, rfl, rfl⟩, trivial⟩, ?_⟩
                  repeat' first | exact True.intro | exact rfl | exact ⟨rfl, rfl⟩ | refine And.intro ?_ ?_
                · try dsimp only [Ty.T] at h5
                  try simp only [castL_self] at h5
                  try simp only [Int.toNat_natCast] at h5
                  try simp only [Int.toNat_zero] at h5
                  have hil : i = rest.length := by omega
                  have hda : docV p ((k : Int) + 1) s rest i = atV p ((k : Int) + 1) (s :: rest) := by rw [hil]; exact docV_all hp.1 hs
                  refine AWPD.exit ?_
                  refine hK38 _ _ ?_
                  clear hK38
                  -- region 21
                  refine AWPD.keep [0, 1, 2, 3, 11, 12, 13] rfl ?_
                  refine AWPD.region (tabOK.own [46]) rfl ?_
                  repeat refine And.intro (by first | (intro hg; first | exact absurd hg (by decide) | (have h9 : fieldE p = 0 := (by simp at hg; first | exact hg | exact hg.1 | exact hg.1.1); have h8 := fieldE_in h9; omega)) | exact fun h => h | exact fun _ => rfl | (intro h; rw [h]; rfl) | omega | (intros; (try dsimp only [Ty.T, Ty.size]); (try simp only [castL_self, Int.toNat_natCast, Int.toNat_zero, Int.toNat_one, true_and, List.length_append, List.length_set, List.length_drop, List.length_take, List.length_replicate, List.length_cons, List.length_nil, Nat.zero_add, Nat.mul_one]); omega) | decide | (intros; simp_all; done) | (intros; simp_all; omega)) ?_
                  refine hK35 _ _ ?_
                  clear hK35
                  -- region 13
                  refine AWPD.keep [0, 1, 2, 3, 11, 12] rfl ?_
                  refine AWPD.region (tabOK.own [46]) rfl ?_
                  repeat refine And.intro (by first | (intro hg; first | exact absurd hg (by decide) | (have h9 : fieldE p = 0 := (by simp at hg; first | exact hg | exact hg.1 | exact hg.1.1); have h8 := fieldE_in h9; omega)) | exact fun h => h | exact fun _ => rfl | (intro h; rw [h]; rfl) | omega | (intros; (try dsimp only [Ty.T, Ty.size]); (try simp only [castL_self, Int.toNat_natCast, Int.toNat_zero, Int.toNat_one, true_and, List.length_append, List.length_set, List.length_drop, List.length_take, List.length_replicate, List.length_cons, List.length_nil, Nat.zero_add, Nat.mul_one]); omega) | decide | (intros; simp_all; done) | (intros; simp_all; omega)) ?_
                  refine ⟨n0 - 1, k + 1, [1], by omega, by omega, ⟨by decide, rfl⟩, ⟨⟨rfl, rfl, (by rw [← dealT_step]; show dealT p (s :: rest) k ++ [((k : Int) + 1, docV p ((k : Int) + 1) s rest i)] = _; rw [hda])⟩, trivial⟩, ?_⟩
                  repeat' first | exact True.intro | exact rfl | exact ⟨rfl, rfl⟩ | refine And.intro ?_ ?_
              · try dsimp only [Ty.T] at h4
                try simp only [castL_self] at h4
                try simp only [Int.toNat_natCast] at h4
                try simp only [Int.toNat_zero] at h4
                have hkm : k = m.toNat := by omega
                refine AWPD.exit ?_
                refine hK31 _ _ ?_
                clear hK31
                refine AWPD.seq fun K44 hK44 => ?_
                -- region 22
                refine AWPD.keep [11] rfl ?_
                refine AWPD.region (tabOK.own [46]) rfl ?_
                refine hK44 _ _ ?_
                clear hK44
                refine AWPD.ret (And.intro (.inl rfl) ?_)
                -- result 3
                first
                  | exact ⟨fitN rfl (by first | (unfold dealL; rw [hE]; rfl) | (unfold dealL; rw [hE, if_neg h3])) (by decide), fitI rfl hE.symm⟩
                  | exact ⟨fitR rfl rfl (by unfold dealL; rw [if_pos hE, hkm]), fitI rfl hE.symm⟩
    · try dsimp only [Ty.T] at h1
      try simp only [castL_self] at h1
      try simp only [Int.toNat_natCast] at h1
      try simp only [Int.toNat_zero] at h1
      first | have hl12 : fieldE p = 0 → ¬12 ≤ rest.length := fun hh => by (have := of_decide_eq_false (gif_f h1 hh); omega) | skip
      refine AWPD.skip ?_
      refine hK5 _ _ ?_
      clear hK5
      refine AWPD.seq fun K45 hK45 => ?_
      refine AWPD.seq fun K46 hK46 => ?_
      -- region 6
      refine AWPD.keep [0, 1, 2, 3, 10] rfl ?_
      refine AWPD.region (tabOK.own [46]) rfl ?_
      repeat refine And.intro (by first | (intro hg; first | exact absurd hg (by decide) | (have h9 : fieldE p = 0 := (by simp at hg; first | exact hg | exact hg.1 | exact hg.1.1); have h8 := fieldE_in h9; omega)) | exact fun h => h | exact fun _ => rfl | (intro h; rw [h]; rfl) | omega | (intros; (try dsimp only [Ty.T, Ty.size]); (try simp only [castL_self, Int.toNat_natCast, Int.toNat_zero, Int.toNat_one, true_and, List.length_append, List.length_set, List.length_drop, List.length_take, List.length_replicate, List.length_cons, List.length_nil, Nat.zero_add, Nat.mul_one]); omega) | decide | (intros; simp_all; done) | (intros; simp_all; omega)) ?_
      refine Exists.intro _ (Exists.intro _ (And.intro (fun hg => StepD.call (rall_fn p rest (by first | exact absurd hg (by decide) | (have h9 : fieldE p = 0 := (by simp at hg; first | exact hg | exact hg.1 | exact hg.1.1); have h8 := fieldE_in h9; omega)) (by first | exact absurd hg (by decide) | (have h9 : fieldE p = 0 := (by simp at hg; first | exact hg | exact hg.1 | exact hg.1.1); have h8 := hl12 h9; omega))) rfl rfl rfl) (And.intro (fun hf => rfl) (And.intro rfl (And.intro trivial ?_)))))
      repeat refine And.intro (by first | (intro hg; first | exact absurd hg (by decide) | (have h9 : fieldE p = 0 := (by simp at hg; first | exact hg | exact hg.1 | exact hg.1.1); have h8 := fieldE_in h9; omega)) | exact fun h => h | exact fun _ => rfl | (intro h; rw [h]; rfl) | omega | (intros; (try dsimp only [Ty.T, Ty.size]); (try simp only [castL_self, Int.toNat_natCast, Int.toNat_zero, Int.toNat_one, true_and, List.length_append, List.length_set, List.length_drop, List.length_take, List.length_replicate, List.length_cons, List.length_nil, Nat.zero_add, Nat.mul_one]); omega) | decide | (intros; simp_all; done) | (intros; simp_all; omega)) ?_
      refine Exists.intro _ (Exists.intro _ (And.intro (fun hg => StepD.call (in4_fn _ _ _) rfl rfl rfl) (And.intro (fun hf => rfl) (And.intro rfl (And.intro trivial ?_)))))
      repeat refine And.intro (by first | (intro hg; first | exact absurd hg (by decide) | (have h9 : fieldE p = 0 := (by simp at hg; first | exact hg | exact hg.1 | exact hg.1.1); have h8 := fieldE_in h9; omega)) | exact fun h => h | exact fun _ => rfl | (intro h; rw [h]; rfl) | omega | (intros; (try dsimp only [Ty.T, Ty.size]); (try simp only [castL_self, Int.toNat_natCast, Int.toNat_zero, Int.toNat_one, true_and, List.length_append, List.length_set, List.length_drop, List.length_take, List.length_replicate, List.length_cons, List.length_nil, Nat.zero_add, Nat.mul_one]); omega) | decide | (intros; simp_all; done) | (intros; simp_all; omega)) ?_
      refine hK46 _ _ ?_
      clear hK46
      first | refine AWPD.cond rfl (fun h2 => ?_) (fun h2 => ?_)
      · try dsimp only [Ty.T] at h2
        try simp only [castL_self] at h2
        try simp only [Int.toNat_natCast] at h2
        try simp only [Int.toNat_zero] at h2
        try (simp at h2; done)
        all_goals
          have hc2 := gif_t h2
          have hf := hc2.1
          have hb2 := c2_t hc2.2
          rw [decide_eq_true_eq] at hb2
          have hE := deal_1b hf (hs hf) (hl12 hf) hb2
          -- region 7
          refine AWPD.keep [0, 1, 2, 3] rfl ?_
          refine AWPD.region (tabOK.own [46]) rfl ?_
          refine hK45 _ _ ?_
          clear hK45
          refine AWPD.seq fun K47 hK47 => ?_
          refine AWPD.seq fun K48 hK48 => ?_
          -- region 8
          refine AWPD.keep [0, 1, 2, 3, 10] rfl ?_
          refine AWPD.region (tabOK.own [46]) rfl ?_
          refine hK48 _ _ ?_
          clear hK48
          first | refine AWPD.condP rfl (fun h3 => ?_) (fun h3 => ?_) | refine AWPD.condN rfl (fun h3 => ?_) (fun h3 => ?_) | refine AWPD.condAP rfl (fun h3 => ?_) (fun h3 => ?_) | refine AWPD.condOP rfl (fun h3 => ?_) (fun h3 => ?_) | refine AWPD.condONN rfl (fun h3 => ?_) (fun h3 => ?_) | refine AWPD.condOPN rfl (fun h3 => ?_) (fun h3 => ?_) | refine AWPD.condA rfl (fun h3 => ?_) (fun h3 => ?_) | refine AWPD.condO rfl (fun h3 => ?_) (fun h3 => ?_) | refine AWPD.cond rfl (fun h3 => ?_) (fun h3 => ?_)
          · try dsimp only [Ty.T] at h3
            try simp only [castL_self] at h3
            try simp only [Int.toNat_natCast] at h3
            try simp only [Int.toNat_zero] at h3
            try have hE := deal_f (s := s) (rest := rest) (m := m) h3
            refine AWPD.seq fun K49 hK49 => ?_
            -- region 9
            refine AWPD.keep [10] rfl ?_
            refine AWPD.region (tabOK.own [46]) rfl ?_
            refine hK49 _ _ ?_
            clear hK49
            refine AWPD.ret (And.intro (.inl rfl) ?_)
            -- result 4
            first
              | exact ⟨fitN rfl (by first | (unfold dealL; rw [hE]; rfl) | (unfold dealL; rw [hE, if_neg h3])) (by decide), fitI rfl hE.symm⟩
              | exact ⟨fitR rfl rfl (by unfold dealL; rw [if_pos hE, hkm]), fitI rfl hE.symm⟩
          · try dsimp only [Ty.T] at h3
            try simp only [castL_self] at h3
            try simp only [Int.toNat_natCast] at h3
            try simp only [Int.toNat_zero] at h3
            try (exact absurd (by decide) h3; done)
            all_goals
              have hf : fieldE p = 0 := by omega
              have hp := fieldE_in hf
              have hs := hs hf
              have hl12 := hl12 hf
              have hb := hb hf
              rw [decide_eq_true_eq] at hb
              have hE := deal_0 hf hs hl12 hb
              have hrin := allE_in hb.1
              refine AWPD.skip ?_
              refine hK47 _ _ ?_
              clear hK47
              refine AWPD.seq fun K50 hK50 => ?_
              -- region 10
              refine AWPD.keep [0, 1, 2, 3] rfl ?_
              refine AWPD.region (tabOK.own [46]) rfl ?_
              refine hK50 _ _ ?_
              clear hK50
              refine AWPD.seq fun K51 hK51 => ?_
              refine AWPD.seq fun K52 hK52 => ?_
              -- region 11
              refine AWPD.keep [0, 1, 2, 3, 11] rfl ?_
              refine AWPD.region (tabOK.own [46]) rfl ?_
              refine hK52 _ _ ?_
              clear hK52
              refine AWPD.block ?_
              -- LOOP 0 live [0, 1, 2, 3, 11, 12] changed [11, 12]
              refine AWPD.nilRow 11 61 .two rfl (by decide) ?_
              refine AWPD.loopK (σ := Nat) [0, 1, 2, 3] (fun k base => (11, .ob 0) :: (12, .i ((k : Int) + 1)) :: base) (fun k => [.row 61 .two (dealT p (s :: rest) k)]) (fun n k => n + k = m.toNat) (m.toNat) 0 [0] rfl rfl (by omega) (by decide) ⟨⟨rfl, rfl, rfl⟩, trivial⟩ (by repeat' first | exact True.intro | exact rfl | exact ⟨rfl, rfl⟩ | refine And.intro ?_ ?_) fun n0 k hI0 => ?_
              have hn0 := hI0
              have hlen : (dealT p (s :: rest) k).length = k := by simp [dealT]
              refine AWPD.seq fun K53 hK53 => ?_
              refine AWPD.seq fun K54 hK54 => ?_
              -- region 12
              refine AWPD.keep [0, 1, 2, 3, 11, 12] rfl ?_
              refine AWPD.region (tabOK.own [46]) rfl ?_
              refine hK54 _ _ ?_
              clear hK54
              first | refine AWPD.condP rfl (fun h4 => ?_) (fun h4 => ?_) | refine AWPD.condN rfl (fun h4 => ?_) (fun h4 => ?_) | refine AWPD.condAP rfl (fun h4 => ?_) (fun h4 => ?_) | refine AWPD.condOP rfl (fun h4 => ?_) (fun h4 => ?_) | refine AWPD.condONN rfl (fun h4 => ?_) (fun h4 => ?_) | refine AWPD.condOPN rfl (fun h4 => ?_) (fun h4 => ?_) | refine AWPD.condA rfl (fun h4 => ?_) (fun h4 => ?_) | refine AWPD.condO rfl (fun h4 => ?_) (fun h4 => ?_) | refine AWPD.cond rfl (fun h4 => ?_) (fun h4 => ?_)
              · try dsimp only [Ty.T] at h4
                try simp only [castL_self] at h4
                try simp only [Int.toNat_natCast] at h4
                try simp only [Int.toNat_zero] at h4
                have hkm : k < m.toNat := by omega
                refine AWPD.skip ?_
                refine hK53 _ _ ?_
                clear hK53
                refine AWPD.seq fun K55 hK55 => ?_
                refine AWPD.block ?_
                refine AWPD.seq fun K56 hK56 => ?_
                -- region 14
                refine AWPD.keep [0, 1, 2, 3, 11, 12] rfl ?_
                refine AWPD.region (tabOK.own [46]) rfl ?_
                refine hK56 _ _ ?_
                clear hK56
                refine AWPD.seq fun K57 hK57 => ?_
                -- region 15
                refine AWPD.keep [0, 1, 2, 3, 11, 12, 13] rfl ?_
                refine AWPD.region (tabOK.own [46]) rfl ?_
                refine hK57 _ _ ?_
                clear hK57
                refine AWPD.seq fun K58 hK58 => ?_
                refine AWPD.seq fun K59 hK59 => ?_
                -- region 16
                refine AWPD.keep [0, 1, 2, 3, 11, 12, 13, 14] rfl ?_
                refine AWPD.region (tabOK.own [46]) rfl ?_
                refine hK59 _ _ ?_
                clear hK59
                refine AWPD.block ?_
                -- LOOP 1 live [0, 1, 2, 3, 11, 12, 13, 14, 15] changed [13, 14, 15]
                refine AWPD.loopK (σ := Nat) [0, 1, 2, 3, 12] (fun i base => (11, .ob 0) :: (13, .i (docV p ((k : Int) + 1) s rest i)) :: (14, .i (pwV p ((k : Int) + 1) i)) :: (15, .i (i : Int)) :: base) (fun i => [.row 61 .two (dealT p (s :: rest) k)]) (fun n i => n + i = rest.length) (rest.length) 0 [0] rfl rfl (by omega) (by decide) ⟨⟨rfl, rfl, rfl⟩, trivial⟩ (by repeat' first | exact True.intro | exact rfl | exact ⟨rfl, rfl⟩ | refine And.intro ?_ ?_) fun n1 i hI1 => ?_
                have hn1 := hI1
                have hdi := docV_in (x := (k : Int) + 1) (rest := rest) hp.1 hs i
                have hpi := pwV_in (x := (k : Int) + 1) hp.1 i
                refine AWPD.seq fun K60 hK60 => ?_
                refine AWPD.seq fun K61 hK61 => ?_
                -- region 17
                refine AWPD.keep [0, 1, 2, 3, 11, 12, 13, 14, 15] rfl ?_
                refine AWPD.region (tabOK.own [46]) rfl ?_
                refine hK61 _ _ ?_
                clear hK61
                first | refine AWPD.condP rfl (fun h5 => ?_) (fun h5 => ?_) | refine AWPD.condN rfl (fun h5 => ?_) (fun h5 => ?_) | refine AWPD.condAP rfl (fun h5 => ?_) (fun h5 => ?_) | refine AWPD.condOP rfl (fun h5 => ?_) (fun h5 => ?_) | refine AWPD.condONN rfl (fun h5 => ?_) (fun h5 => ?_) | refine AWPD.condOPN rfl (fun h5 => ?_) (fun h5 => ?_) | refine AWPD.condA rfl (fun h5 => ?_) (fun h5 => ?_) | refine AWPD.condO rfl (fun h5 => ?_) (fun h5 => ?_) | refine AWPD.cond rfl (fun h5 => ?_) (fun h5 => ?_)
                · try dsimp only [Ty.T] at h5
                  try simp only [castL_self] at h5
                  try simp only [Int.toNat_natCast] at h5
                  try simp only [Int.toNat_zero] at h5
                  have hil : i < rest.length := by omega
                  have hri := hrin _ (getD_mem hil 0)
                  have hpn := pwV_in (x := (k : Int) + 1) hp.1 (i + 1)
                  have hm1 := mul_b (a := pwV p ((k : Int) + 1) i) (b := (k : Int) + 1) (by omega) (by omega)
                  have hm2 := mul_b (a := rest.getD i 0) (b := pwV p ((k : Int) + 1) (i + 1)) (by omega) (by omega)
                  have hm0 : 0 ≤ rest.getD i 0 * pwV p ((k : Int) + 1) (i + 1) := Int.mul_nonneg (by omega) (by omega)
                  have hm9 : 0 ≤ pwV p ((k : Int) + 1) i * ((k : Int) + 1) := Int.mul_nonneg (by omega) (by omega)
                  have hpe : pwV p ((k : Int) + 1) i * ((k : Int) + 1) % p = pwV p ((k : Int) + 1) (i + 1) := rfl
                  refine AWPD.skip ?_
                  refine hK60 _ _ ?_
                  clear hK60
                  refine AWPD.seq fun K62 hK62 => ?_
                  refine AWPD.block ?_
                  refine AWPD.seq fun K63 hK63 => ?_
                  -- region 19
                  refine AWPD.keep [0, 1, 2, 3, 11, 12, 13, 14, 15] rfl ?_
                  refine AWPD.region (tabOK.own [46]) rfl ?_
                  repeat refine And.intro (by first | (intro hg; first | exact absurd hg (by decide) | (have h9 : fieldE p = 0 := (by simp at hg; first | exact hg | exact hg.1 | exact hg.1.1); have h8 := fieldE_in h9; omega)) | exact fun h => h | exact fun _ => rfl | (intro h; rw [h]; rfl) | omega | (intros; (try dsimp only [Ty.T, Ty.size]); (try simp only [castL_self, Int.toNat_natCast, Int.toNat_zero, Int.toNat_one, true_and, List.length_append, List.length_set, List.length_drop, List.length_take, List.length_replicate, List.length_cons, List.length_nil, Nat.zero_add, Nat.mul_one]); omega) | decide | (intros; simp_all; done) | (intros; simp_all; omega)) ?_
                  refine hK63 _ _ ?_
                  clear hK63
                  -- region 20
                  rw [hpe]
                  refine AWPD.keep [0, 1, 2, 3, 11, 12, 13, 14, 15] rfl ?_
                  refine AWPD.region (tabOK.own [46]) rfl ?_
                  repeat refine And.intro (by first | (intro hg; first | exact absurd hg (by decide) | (have h9 : fieldE p = 0 := (by simp at hg; first | exact hg | exact hg.1 | exact hg.1.1); have h8 := fieldE_in h9; omega)) | exact fun h => h | exact fun _ => rfl | (intro h; rw [h]; rfl) | omega | (intros; (try dsimp only [Ty.T, Ty.size]); (try simp only [castL_self, Int.toNat_natCast, Int.toNat_zero, Int.toNat_one, true_and, List.length_append, List.length_set, List.length_drop, List.length_take, List.length_replicate, List.length_cons, List.length_nil, Nat.zero_add, Nat.mul_one]); omega) | decide | (intros; simp_all; done) | (intros; simp_all; omega)) ?_
                  refine hK62 _ _ ?_
                  clear hK62
                  -- region 18
                  refine AWPD.keep [0, 1, 2, 3, 11, 12, 13, 14, 15] rfl ?_
                  refine AWPD.region (tabOK.own [46]) rfl ?_
                  repeat refine And.intro (by first | (intro hg; first | exact absurd hg (by decide) | (have h9 : fieldE p = 0 := (by simp at hg; first | exact hg | exact hg.1 | exact hg.1.1); have h8 := fieldE_in h9; omega)) | exact fun h => h | exact fun _ => rfl | (intro h; rw [h]; rfl) | omega | (intros; (try dsimp only [Ty.T, Ty.size]); (try simp only [castL_self, Int.toNat_natCast, Int.toNat_zero, Int.toNat_one, true_and, List.length_append, List.length_set, List.length_drop, List.length_take, List.length_replicate, List.length_cons, List.length_nil, Nat.zero_add, Nat.mul_one]); omega) | decide | (intros; simp_all; done) | (intros; simp_all; omega)) ?_
                  refine ⟨n1 - 1, i + 1, [0], by omega, by omega, ⟨by decide, rfl⟩, ⟨⟨rfl, rfl, rfl⟩, trivial⟩, ?_⟩
                  repeat' first | exact True.intro | exact rfl | exact ⟨rfl, rfl⟩ | refine And.intro ?_ ?_
                · try dsimp only [Ty.T] at h5
                  try simp only [castL_self] at h5
                  try simp only [Int.toNat_natCast] at h5
                  try simp only [Int.toNat_zero] at h5
                  have hil : i = rest.length := by omega
                  have hda : docV p ((k : Int) + 1) s rest i = atV p ((k : Int) + 1) (s :: rest) := by rw [hil]; exact docV_all hp.1 hs
                  refine AWPD.exit ?_
                  refine hK58 _ _ ?_
                  clear hK58
                  -- region 21
                  refine AWPD.keep [0, 1, 2, 3, 11, 12, 13] rfl ?_
                  refine AWPD.region (tabOK.own [46]) rfl ?_
                  repeat refine And.intro (by first | (intro hg; first | exact absurd hg (by decide) | (have h9 : fieldE p = 0 := (by simp at hg; first | exact hg | exact hg.1 | exact hg.1.1); have h8 := fieldE_in h9; omega)) | exact fun h => h | exact fun _ => rfl | (intro h; rw [h]; rfl) | omega | (intros; (try dsimp only [Ty.T, Ty.size]); (try simp only [castL_self, Int.toNat_natCast, Int.toNat_zero, Int.toNat_one, true_and, List.length_append, List.length_set, List.length_drop, List.length_take, List.length_replicate, List.length_cons, List.length_nil, Nat.zero_add, Nat.mul_one]); omega) | decide | (intros; simp_all; done) | (intros; simp_all; omega)) ?_
                  refine hK55 _ _ ?_
                  clear hK55
                  -- region 13
                  refine AWPD.keep [0, 1, 2, 3, 11, 12] rfl ?_
                  refine AWPD.region (tabOK.own [46]) rfl ?_
                  repeat refine And.intro (by first | (intro hg; first | exact absurd hg (by decide) | (have h9 : fieldE p = 0 := (by simp at hg; first | exact hg | exact hg.1 | exact hg.1.1); have h8 := fieldE_in h9; omega)) | exact fun h => h | exact fun _ => rfl | (intro h; rw [h]; rfl) | omega | (intros; (try dsimp only [Ty.T, Ty.size]); (try simp only [castL_self, Int.toNat_natCast, Int.toNat_zero, Int.toNat_one, true_and, List.length_append, List.length_set, List.length_drop, List.length_take, List.length_replicate, List.length_cons, List.length_nil, Nat.zero_add, Nat.mul_one]); omega) | decide | (intros; simp_all; done) | (intros; simp_all; omega)) ?_
                  refine ⟨n0 - 1, k + 1, [1], by omega, by omega, ⟨by decide, rfl⟩, ⟨⟨rfl, rfl, (by rw [← dealT_step]; show dealT p (s :: rest) k ++ [((k : Int) + 1, docV p ((k : Int) + 1) s rest i)] = _; rw [hda])⟩, trivial⟩, ?_⟩
                  repeat' first | exact True.intro | exact rfl | exact ⟨rfl, rfl⟩ | refine And.intro ?_ ?_
              · try dsimp only [Ty.T] at h4
                try simp only [castL_self] at h4
                try simp only [Int.toNat_natCast] at h4
                try simp only [Int.toNat_zero] at h4
                have hkm : k = m.toNat := by omega
                refine AWPD.exit ?_
                refine hK51 _ _ ?_
                clear hK51
                refine AWPD.seq fun K64 hK64 => ?_
                -- region 22
                refine AWPD.keep [11] rfl ?_
                refine AWPD.region (tabOK.own [46]) rfl ?_
                refine hK64 _ _ ?_
                clear hK64
                refine AWPD.ret (And.intro (.inl rfl) ?_)
                -- result 5
                first
                  | exact ⟨fitN rfl (by first | (unfold dealL; rw [hE]; rfl) | (unfold dealL; rw [hE, if_neg h3])) (by decide), fitI rfl hE.symm⟩
                  | exact ⟨fitR rfl rfl (by unfold dealL; rw [if_pos hE, hkm]), fitI rfl hE.symm⟩
      · try dsimp only [Ty.T] at h2
        try simp only [castL_self] at h2
        try simp only [Int.toNat_natCast] at h2
        try simp only [Int.toNat_zero] at h2
        first | have hb : fieldE p = 0 → _ := fun hh => c2_f (gif_f h2 hh) | skip
        refine AWPD.skip ?_
        refine hK45 _ _ ?_
        clear hK45
        refine AWPD.seq fun K65 hK65 => ?_
        refine AWPD.seq fun K66 hK66 => ?_
        -- region 8
        refine AWPD.keep [0, 1, 2, 3, 10] rfl ?_
        refine AWPD.region (tabOK.own [46]) rfl ?_
        refine hK66 _ _ ?_
        clear hK66
        first | refine AWPD.condP rfl (fun h3 => ?_) (fun h3 => ?_) | refine AWPD.condN rfl (fun h3 => ?_) (fun h3 => ?_) | refine AWPD.condAP rfl (fun h3 => ?_) (fun h3 => ?_) | refine AWPD.condOP rfl (fun h3 => ?_) (fun h3 => ?_) | refine AWPD.condONN rfl (fun h3 => ?_) (fun h3 => ?_) | refine AWPD.condOPN rfl (fun h3 => ?_) (fun h3 => ?_) | refine AWPD.condA rfl (fun h3 => ?_) (fun h3 => ?_) | refine AWPD.condO rfl (fun h3 => ?_) (fun h3 => ?_) | refine AWPD.cond rfl (fun h3 => ?_) (fun h3 => ?_)
        · try dsimp only [Ty.T] at h3
          try simp only [castL_self] at h3
          try simp only [Int.toNat_natCast] at h3
          try simp only [Int.toNat_zero] at h3
          try have hE := deal_f (s := s) (rest := rest) (m := m) h3
          refine AWPD.seq fun K67 hK67 => ?_
          -- region 9
          refine AWPD.keep [10] rfl ?_
          refine AWPD.region (tabOK.own [46]) rfl ?_
          refine hK67 _ _ ?_
          clear hK67
          refine AWPD.ret (And.intro (.inl rfl) ?_)
          -- result 6
          first
            | exact ⟨fitN rfl (by first | (unfold dealL; rw [hE]; rfl) | (unfold dealL; rw [hE, if_neg h3])) (by decide), fitI rfl hE.symm⟩
            | exact ⟨fitR rfl rfl (by unfold dealL; rw [if_pos hE, hkm]), fitI rfl hE.symm⟩
        · try dsimp only [Ty.T] at h3
          try simp only [castL_self] at h3
          try simp only [Int.toNat_natCast] at h3
          try simp only [Int.toNat_zero] at h3
          try (exact absurd (by decide) h3; done)
          all_goals
            have hf : fieldE p = 0 := by omega
            have hp := fieldE_in hf
            have hs := hs hf
            have hl12 := hl12 hf
            have hb := hb hf
            rw [decide_eq_true_eq] at hb
            have hE := deal_0 hf hs hl12 hb
            have hrin := allE_in hb.1
            refine AWPD.skip ?_
            refine hK65 _ _ ?_
            clear hK65
            refine AWPD.seq fun K68 hK68 => ?_
            -- region 10
            refine AWPD.keep [0, 1, 2, 3] rfl ?_
            refine AWPD.region (tabOK.own [46]) rfl ?_
            refine hK68 _ _ ?_
            clear hK68
            refine AWPD.seq fun K69 hK69 => ?_
            refine AWPD.seq fun K70 hK70 => ?_
            -- region 11
            refine AWPD.keep [0, 1, 2, 3, 11] rfl ?_
            refine AWPD.region (tabOK.own [46]) rfl ?_
            refine hK70 _ _ ?_
            clear hK70
            refine AWPD.block ?_
            -- LOOP 0 live [0, 1, 2, 3, 11, 12] changed [11, 12]
            refine AWPD.nilRow 11 61 .two rfl (by decide) ?_
            refine AWPD.loopK (σ := Nat) [0, 1, 2, 3] (fun k base => (11, .ob 0) :: (12, .i ((k : Int) + 1)) :: base) (fun k => [.row 61 .two (dealT p (s :: rest) k)]) (fun n k => n + k = m.toNat) (m.toNat) 0 [0] rfl rfl (by omega) (by decide) ⟨⟨rfl, rfl, rfl⟩, trivial⟩ (by repeat' first | exact True.intro | exact rfl | exact ⟨rfl, rfl⟩ | refine And.intro ?_ ?_) fun n0 k hI0 => ?_
            have hn0 := hI0
            have hlen : (dealT p (s :: rest) k).length = k := by simp [dealT]
            refine AWPD.seq fun K71 hK71 => ?_
            refine AWPD.seq fun K72 hK72 => ?_
            -- region 12
            refine AWPD.keep [0, 1, 2, 3, 11, 12] rfl ?_
            refine AWPD.region (tabOK.own [46]) rfl ?_
            refine hK72 _ _ ?_
            clear hK72
            first | refine AWPD.condP rfl (fun h4 => ?_) (fun h4 => ?_) | refine AWPD.condN rfl (fun h4 => ?_) (fun h4 => ?_) | refine AWPD.condAP rfl (fun h4 => ?_) (fun h4 => ?_) | refine AWPD.condOP rfl (fun h4 => ?_) (fun h4 => ?_) | refine AWPD.condONN rfl (fun h4 => ?_) (fun h4 => ?_) | refine AWPD.condOPN rfl (fun h4 => ?_) (fun h4 => ?_) | refine AWPD.condA rfl (fun h4 => ?_) (fun h4 => ?_) | refine AWPD.condO rfl (fun h4 => ?_) (fun h4 => ?_) | refine AWPD.cond rfl (fun h4 => ?_) (fun h4 => ?_)
            · try dsimp only [Ty.T] at h4
              try simp only [castL_self] at h4
              try simp only [Int.toNat_natCast] at h4
              try simp only [Int.toNat_zero] at h4
              have hkm : k < m.toNat := by omega
              refine AWPD.skip ?_
              refine hK71 _ _ ?_
              clear hK71
              refine AWPD.seq fun K73 hK73 => ?_
              refine AWPD.block ?_
              refine AWPD.seq fun K74 hK74 => ?_
              -- region 14
              refine AWPD.keep [0, 1, 2, 3, 11, 12] rfl ?_
              refine AWPD.region (tabOK.own [46]) rfl ?_
              refine hK74 _ _ ?_
              clear hK74
              refine AWPD.seq fun K75 hK75 => ?_
              -- region 15
              refine AWPD.keep [0, 1, 2, 3, 11, 12, 13] rfl ?_
              refine AWPD.region (tabOK.own [46]) rfl ?_
              refine hK75 _ _ ?_
              clear hK75
              refine AWPD.seq fun K76 hK76 => ?_
              refine AWPD.seq fun K77 hK77 => ?_
              -- region 16
              refine AWPD.keep [0, 1, 2, 3, 11, 12, 13, 14] rfl ?_
              refine AWPD.region (tabOK.own [46]) rfl ?_
              refine hK77 _ _ ?_
              clear hK77
              refine AWPD.block ?_
              -- LOOP 1 live [0, 1, 2, 3, 11, 12, 13, 14, 15] changed [13, 14, 15]
              refine AWPD.loopK (σ := Nat) [0, 1, 2, 3, 12] (fun i base => (11, .ob 0) :: (13, .i (docV p ((k : Int) + 1) s rest i)) :: (14, .i (pwV p ((k : Int) + 1) i)) :: (15, .i (i : Int)) :: base) (fun i => [.row 61 .two (dealT p (s :: rest) k)]) (fun n i => n + i = rest.length) (rest.length) 0 [0] rfl rfl (by omega) (by decide) ⟨⟨rfl, rfl, rfl⟩, trivial⟩ (by repeat' first | exact True.intro | exact rfl | exact ⟨rfl, rfl⟩ | refine And.intro ?_ ?_) fun n1 i hI1 => ?_
              have hn1 := hI1
              have hdi := docV_in (x := (k : Int) + 1) (rest := rest) hp.1 hs i
              have hpi := pwV_in (x := (k : Int) + 1) hp.1 i
              refine AWPD.seq fun K78 hK78 => ?_
              refine AWPD.seq fun K79 hK79 => ?_
              -- region 17
              refine AWPD.keep [0, 1, 2, 3, 11, 12, 13, 14, 15] rfl ?_
              refine AWPD.region (tabOK.own [46]) rfl ?_
              refine hK79 _ _ ?_
              clear hK79
              first | refine AWPD.condP rfl (fun h5 => ?_) (fun h5 => ?_) | refine AWPD.condN rfl (fun h5 => ?_) (fun h5 => ?_) | refine AWPD.condAP rfl (fun h5 => ?_) (fun h5 => ?_) | refine AWPD.condOP rfl (fun h5 => ?_) (fun h5 => ?_) | refine AWPD.condONN rfl (fun h5 => ?_) (fun h5 => ?_) | refine AWPD.condOPN rfl (fun h5 => ?_) (fun h5 => ?_) | refine AWPD.condA rfl (fun h5 => ?_) (fun h5 => ?_) | refine AWPD.condO rfl (fun h5 => ?_) (fun h5 => ?_) | refine AWPD.cond rfl (fun h5 => ?_) (fun h5 => ?_)
              · try dsimp only [Ty.T] at h5
                try simp only [castL_self] at h5
                try simp only [Int.toNat_natCast] at h5
                try simp only [Int.toNat_zero] at h5
                have hil : i < rest.length := by omega
                have hri := hrin _ (getD_mem hil 0)
                have hpn := pwV_in (x := (k : Int) + 1) hp.1 (i + 1)
                have hm1 := mul_b (a := pwV p ((k : Int) + 1) i) (b := (k : Int) + 1) (by omega) (by omega)
                have hm2 := mul_b (a := rest.getD i 0) (b := pwV p ((k : Int) + 1) (i + 1)) (by omega) (by omega)
                have hm0 : 0 ≤ rest.getD i 0 * pwV p ((k : Int) + 1) (i + 1) := Int.mul_nonneg (by omega) (by omega)
                have hm9 : 0 ≤ pwV p ((k : Int) + 1) i * ((k : Int) + 1) := Int.mul_nonneg (by omega) (by omega)
                have hpe : pwV p ((k : Int) + 1) i * ((k : Int) + 1) % p = pwV p ((k : Int) + 1) (i + 1) := rfl
                refine AWPD.skip ?_
                refine hK78 _ _ ?_
                clear hK78
                refine AWPD.seq fun K80 hK80 => ?_
                refine AWPD.block ?_
                refine AWPD.seq fun K81 hK81 => ?_
                -- region 19
                refine AWPD.keep [0, 1, 2, 3, 11, 12, 13, 14, 15] rfl ?_
                refine AWPD.region (tabOK.own [46]) rfl ?_
                repeat refine And.intro (by first | (intro hg; first | exact absurd hg (by decide) | (have h9 : fieldE p = 0 := (by simp at hg; first | exact hg | exact hg.1 | exact hg.1.1); have h8 := fieldE_in h9; omega)) | exact fun h => h | exact fun _ => rfl | (intro h; rw [h]; rfl) | omega | (intros; (try dsimp only [Ty.T, Ty.size]); (try simp only [castL_self, Int.toNat_natCast, Int.toNat_zero, Int.toNat_one, true_and, List.length_append, List.length_set, List.length_drop, List.length_take, List.length_replicate, List.length_cons, List.length_nil, Nat.zero_add, Nat.mul_one]); omega) | decide | (intros; simp_all; done) | (intros; simp_all; omega)) ?_
                refine hK81 _ _ ?_
                clear hK81
                -- region 20
                rw [hpe]
                refine AWPD.keep [0, 1, 2, 3, 11, 12, 13, 14, 15] rfl ?_
                refine AWPD.region (tabOK.own [46]) rfl ?_
                repeat refine And.intro (by first | (intro hg; first | exact absurd hg (by decide) | (have h9 : fieldE p = 0 := (by simp at hg; first | exact hg | exact hg.1 | exact hg.1.1); have h8 := fieldE_in h9; omega)) | exact fun h => h | exact fun _ => rfl | (intro h; rw [h]; rfl) | omega | (intros; (try dsimp only [Ty.T, Ty.size]); (try simp only [castL_self, Int.toNat_natCast, Int.toNat_zero, Int.toNat_one, true_and, List.length_append, List.length_set, List.length_drop, List.length_take, List.length_replicate, List.length_cons, List.length_nil, Nat.zero_add, Nat.mul_one]); omega) | decide | (intros; simp_all; done) | (intros; simp_all; omega)) ?_
                refine hK80 _ _ ?_
                clear hK80
                -- region 18
                refine AWPD.keep [0, 1, 2, 3, 11, 12, 13, 14, 15] rfl ?_
                refine AWPD.region (tabOK.own [46]) rfl ?_
                repeat refine And.intro (by first | (intro hg; first | exact absurd hg (by decide) | (have h9 : fieldE p = 0 := (by simp at hg; first | exact hg | exact hg.1 | exact hg.1.1); have h8 := fieldE_in h9; omega)) | exact fun h => h | exact fun _ => rfl | (intro h; rw [h]; rfl) | omega | (intros; (try dsimp only [Ty.T, Ty.size]); (try simp only [castL_self, Int.toNat_natCast, Int.toNat_zero, Int.toNat_one, true_and, List.length_append, List.length_set, List.length_drop, List.length_take, List.length_replicate, List.length_cons, List.length_nil, Nat.zero_add, Nat.mul_one]); omega) | decide | (intros; simp_all; done) | (intros; simp_all; omega)) ?_
                refine ⟨n1 - 1, i + 1, [0], by omega, by omega, ⟨by decide, rfl⟩, ⟨⟨rfl, rfl, rfl⟩, trivial⟩, ?_⟩
                repeat' first | exact True.intro | exact rfl | exact ⟨rfl, rfl⟩ | refine And.intro ?_ ?_
              · try dsimp only [Ty.T] at h5
                try simp only [castL_self] at h5
                try simp only [Int.toNat_natCast] at h5
                try simp only [Int.toNat_zero] at h5
                have hil : i = rest.length := by omega
                have hda : docV p ((k : Int) + 1) s rest i = atV p ((k : Int) + 1) (s :: rest) := by rw [hil]; exact docV_all hp.1 hs
                refine AWPD.exit ?_
                refine hK76 _ _ ?_
                clear hK76
                -- region 21
                refine AWPD.keep [0, 1, 2, 3, 11, 12, 13] rfl ?_
                refine AWPD.region (tabOK.own [46]) rfl ?_
                repeat refine And.intro (by first | (intro hg; first | exact absurd hg (by decide) | (have h9 : fieldE p = 0 := (by simp at hg; first | exact hg | exact hg.1 | exact hg.1.1); have h8 := fieldE_in h9; omega)) | exact fun h => h | exact fun _ => rfl | (intro h; rw [h]; rfl) | omega | (intros; (try dsimp only [Ty.T, Ty.size]); (try simp only [castL_self, Int.toNat_natCast, Int.toNat_zero, Int.toNat_one, true_and, List.length_append, List.length_set, List.length_drop, List.length_take, List.length_replicate, List.length_cons, List.length_nil, Nat.zero_add, Nat.mul_one]); omega) | decide | (intros; simp_all; done) | (intros; simp_all; omega)) ?_
                refine hK73 _ _ ?_
                clear hK73
                -- region 13
                refine AWPD.keep [0, 1, 2, 3, 11, 12] rfl ?_
                refine AWPD.region (tabOK.own [46]) rfl ?_
                repeat refine And.intro (by first | (intro hg; first | exact absurd hg (by decide) | (have h9 : fieldE p = 0 := (by simp at hg; first | exact hg | exact hg.1 | exact hg.1.1); have h8 := fieldE_in h9; omega)) | exact fun h => h | exact fun _ => rfl | (intro h; rw [h]; rfl) | omega | (intros; (try dsimp only [Ty.T, Ty.size]); (try simp only [castL_self, Int.toNat_natCast, Int.toNat_zero, Int.toNat_one, true_and, List.length_append, List.length_set, List.length_drop, List.length_take, List.length_replicate, List.length_cons, List.length_nil, Nat.zero_add, Nat.mul_one]); omega) | decide | (intros; simp_all; done) | (intros; simp_all; omega)) ?_
                refine ⟨n0 - 1, k + 1, [1], by omega, by omega, ⟨by decide, rfl⟩, ⟨⟨rfl, rfl, (by rw [← dealT_step]; show dealT p (s :: rest) k ++ [((k : Int) + 1, docV p ((k : Int) + 1) s rest i)] = _; rw [hda])⟩, trivial⟩, ?_⟩
                repeat' first | exact True.intro | exact rfl | exact ⟨rfl, rfl⟩ | refine And.intro ?_ ?_
            · try dsimp only [Ty.T] at h4
              try simp only [castL_self] at h4
              try simp only [Int.toNat_natCast] at h4
              try simp only [Int.toNat_zero] at h4
              have hkm : k = m.toNat := by omega
              refine AWPD.exit ?_
              refine hK69 _ _ ?_
              clear hK69
              refine AWPD.seq fun K82 hK82 => ?_
              -- region 22
              refine AWPD.keep [11] rfl ?_
              refine AWPD.region (tabOK.own [46]) rfl ?_
              refine hK82 _ _ ?_
              clear hK82
              refine AWPD.ret (And.intro (.inl rfl) ?_)
              -- result 7
              first
                | exact ⟨fitN rfl (by first | (unfold dealL; rw [hE]; rfl) | (unfold dealL; rw [hE, if_neg h3])) (by decide), fitI rfl hE.symm⟩
                | exact ⟨fitR rfl rfl (by unfold dealL; rw [if_pos hE, hkm]), fitI rfl hE.symm⟩
  · try dsimp only [Ty.T] at h0
    try simp only [castL_self] at h0
    try simp only [Int.toNat_natCast] at h0
    try simp only [Int.toNat_zero] at h0
    have hs : fieldE p = 0 → (0 ≤ s ∧ s ≤ p - 1) := fun hh => by have := gif_f h0 hh; simpa using this
    refine AWPD.skip ?_
    refine hK3 _ _ ?_
    clear hK3
    refine AWPD.seq fun K83 hK83 => ?_
    refine AWPD.seq fun K84 hK84 => ?_
    -- region 4
    refine AWPD.keep [0, 1, 2, 3, 10] rfl ?_
    refine AWPD.region (tabOK.own [46]) rfl ?_
    repeat refine And.intro (by first | (intro hg; first | exact absurd hg (by decide) | (have h9 : fieldE p = 0 := (by simp at hg; first | exact hg | exact hg.1 | exact hg.1.1); have h8 := fieldE_in h9; omega)) | exact fun h => h | exact fun _ => rfl | (intro h; rw [h]; rfl) | omega | (intros; (try dsimp only [Ty.T, Ty.size]); (try simp only [castL_self, Int.toNat_natCast, Int.toNat_zero, Int.toNat_one, true_and, List.length_append, List.length_set, List.length_drop, List.length_take, List.length_replicate, List.length_cons, List.length_nil, Nat.zero_add, Nat.mul_one]); omega) | decide | (intros; simp_all; done) | (intros; simp_all; omega)) ?_
    refine hK84 _ _ ?_
    clear hK84
    first | refine AWPD.cond rfl (fun h1 => ?_) (fun h1 => ?_)
    · try dsimp only [Ty.T] at h1
      try simp only [castL_self] at h1
      try simp only [Int.toNat_natCast] at h1
      try simp only [Int.toNat_zero] at h1
      try (simp at h1; done)
      all_goals
        have hc1 := gif_t h1
        have hf := hc1.1
        have hl12 : 12 ≤ rest.length := by have := of_decide_eq_true hc1.2; omega
        have hE := deal_4 (m := m) hf (hs hf) hl12
        -- region 5
        refine AWPD.keep [0, 1, 2, 3] rfl ?_
        refine AWPD.region (tabOK.own [46]) rfl ?_
        refine hK83 _ _ ?_
        clear hK83
        refine AWPD.seq fun K85 hK85 => ?_
        refine AWPD.seq fun K86 hK86 => ?_
        -- region 6
        refine AWPD.keep [0, 1, 2, 3, 10] rfl ?_
        refine AWPD.region (tabOK.own [46]) rfl ?_
        repeat refine And.intro (by first | (intro hg; first | exact absurd hg (by decide) | (have h9 : fieldE p = 0 := (by simp at hg; first | exact hg | exact hg.1 | exact hg.1.1); have h8 := fieldE_in h9; omega)) | exact fun h => h | exact fun _ => rfl | (intro h; rw [h]; rfl) | omega | (intros; (try dsimp only [Ty.T, Ty.size]); (try simp only [castL_self, Int.toNat_natCast, Int.toNat_zero, Int.toNat_one, true_and, List.length_append, List.length_set, List.length_drop, List.length_take, List.length_replicate, List.length_cons, List.length_nil, Nat.zero_add, Nat.mul_one]); omega) | decide | (intros; simp_all; done) | (intros; simp_all; omega)) ?_
        refine Exists.intro _ (Exists.intro _ (And.intro (fun hg => StepD.call (rall_fn p rest (by first | exact absurd hg (by decide) | (have h9 : fieldE p = 0 := (by simp at hg; first | exact hg | exact hg.1 | exact hg.1.1); have h8 := fieldE_in h9; omega)) (by first | exact absurd hg (by decide) | (have h9 : fieldE p = 0 := (by simp at hg; first | exact hg | exact hg.1 | exact hg.1.1); have h8 := hl12 h9; omega))) rfl rfl rfl) (And.intro (fun hf => rfl) (And.intro rfl (And.intro trivial ?_)))))
        repeat refine And.intro (by first | (intro hg; first | exact absurd hg (by decide) | (have h9 : fieldE p = 0 := (by simp at hg; first | exact hg | exact hg.1 | exact hg.1.1); have h8 := fieldE_in h9; omega)) | exact fun h => h | exact fun _ => rfl | (intro h; rw [h]; rfl) | omega | (intros; (try dsimp only [Ty.T, Ty.size]); (try simp only [castL_self, Int.toNat_natCast, Int.toNat_zero, Int.toNat_one, true_and, List.length_append, List.length_set, List.length_drop, List.length_take, List.length_replicate, List.length_cons, List.length_nil, Nat.zero_add, Nat.mul_one]); omega) | decide | (intros; simp_all; done) | (intros; simp_all; omega)) ?_
        refine Exists.intro _ (Exists.intro _ (And.intro (fun hg => StepD.call (in4_fn _ _ _) rfl rfl rfl) (And.intro (fun hf => rfl) (And.intro rfl (And.intro trivial ?_)))))
        repeat refine And.intro (by first | (intro hg; first | exact absurd hg (by decide) | (have h9 : fieldE p = 0 := (by simp at hg; first | exact hg | exact hg.1 | exact hg.1.1); have h8 := fieldE_in h9; omega)) | exact fun h => h | exact fun _ => rfl | (intro h; rw [h]; rfl) | omega | (intros; (try dsimp only [Ty.T, Ty.size]); (try simp only [castL_self, Int.toNat_natCast, Int.toNat_zero, Int.toNat_one, true_and, List.length_append, List.length_set, List.length_drop, List.length_take, List.length_replicate, List.length_cons, List.length_nil, Nat.zero_add, Nat.mul_one]); omega) | decide | (intros; simp_all; done) | (intros; simp_all; omega)) ?_
        refine hK86 _ _ ?_
        clear hK86
        first | refine AWPD.cond rfl (fun h2 => ?_) (fun h2 => ?_)
        · try dsimp only [Ty.T] at h2
          try simp only [castL_self] at h2
          try simp only [Int.toNat_natCast] at h2
          try simp only [Int.toNat_zero] at h2
          try (simp at h2; done)
          all_goals
            have hc2 := gif_t h2
            have hf := hc2.1
            have hb2 := c2_t hc2.2
            rw [decide_eq_true_eq] at hb2
            have hE := deal_1b hf (hs hf) (hl12 hf) hb2
            -- region 7
            refine AWPD.keep [0, 1, 2, 3] rfl ?_
            refine AWPD.region (tabOK.own [46]) rfl ?_
            refine hK85 _ _ ?_
            clear hK85
            refine AWPD.seq fun K87 hK87 => ?_
            refine AWPD.seq fun K88 hK88 => ?_
            -- region 8
            refine AWPD.keep [0, 1, 2, 3, 10] rfl ?_
            refine AWPD.region (tabOK.own [46]) rfl ?_
            refine hK88 _ _ ?_
            clear hK88
            first | refine AWPD.condP rfl (fun h3 => ?_) (fun h3 => ?_) | refine AWPD.condN rfl (fun h3 => ?_) (fun h3 => ?_) | refine AWPD.condAP rfl (fun h3 => ?_) (fun h3 => ?_) | refine AWPD.condOP rfl (fun h3 => ?_) (fun h3 => ?_) | refine AWPD.condONN rfl (fun h3 => ?_) (fun h3 => ?_) | refine AWPD.condOPN rfl (fun h3 => ?_) (fun h3 => ?_) | refine AWPD.condA rfl (fun h3 => ?_) (fun h3 => ?_) | refine AWPD.condO rfl (fun h3 => ?_) (fun h3 => ?_) | refine AWPD.cond rfl (fun h3 => ?_) (fun h3 => ?_)
            · try dsimp only [Ty.T] at h3
              try simp only [castL_self] at h3
              try simp only [Int.toNat_natCast] at h3
              try simp only [Int.toNat_zero] at h3
              try have hE := deal_f (s := s) (rest := rest) (m := m) h3
              refine AWPD.seq fun K89 hK89 => ?_
              -- region 9
              refine AWPD.keep [10] rfl ?_
              refine AWPD.region (tabOK.own [46]) rfl ?_
              refine hK89 _ _ ?_
              clear hK89
              refine AWPD.ret (And.intro (.inl rfl) ?_)
              -- result 8
              first
                | exact ⟨fitN rfl (by first | (unfold dealL; rw [hE]; rfl) | (unfold dealL; rw [hE, if_neg h3])) (by decide), fitI rfl hE.symm⟩
                | exact ⟨fitR rfl rfl (by unfold dealL; rw [if_pos hE, hkm]), fitI rfl hE.symm⟩
            · try dsimp only [Ty.T] at h3
              try simp only [castL_self] at h3
              try simp only [Int.toNat_natCast] at h3
              try simp only [Int.toNat_zero] at h3
              try (exact absurd (by decide) h3; done)
              all_goals
                have hf : fieldE p = 0 := by omega
                have hp := fieldE_in hf
                have hs := hs hf
                have hl12 := hl12 hf
                have hb := hb hf
                rw [decide_eq_true_eq] at hb
                have hE := deal_0 hf hs hl12 hb
                have hrin := allE_in hb.1
                refine AWPD.skip ?_
                refine hK87 _ _ ?_
                clear hK87
                refine AWPD.seq fun K90 hK90 => ?_
                -- region 10
                refine AWPD.keep [0, 1, 2, 3] rfl ?_
                refine AWPD.region (tabOK.own [46]) rfl ?_
                refine hK90 _ _ ?_
                clear hK90
                refine AWPD.seq fun K91 hK91 => ?_
                refine AWPD.seq fun K92 hK92 => ?_
                -- region 11
                refine AWPD.keep [0, 1, 2, 3, 11] rfl ?_
                refine AWPD.region (tabOK.own [46]) rfl ?_
                refine hK92 _ _ ?_
                clear hK92
                refine AWPD.block ?_
                -- LOOP 0 live [0, 1, 2, 3, 11, 12] changed [11, 12]
                refine AWPD.nilRow 11 61 .two rfl (by decide) ?_
                refine AWPD.loopK (σ := Nat) [0, 1, 2, 3] (fun k base => (11, .ob 0) :: (12, .i ((k : Int) + 1)) :: base) (fun k => [.row 61 .two (dealT p (s :: rest) k)]) (fun n k => n + k = m.toNat) (m.toNat) 0 [0] rfl rfl (by omega) (by decide) ⟨⟨rfl, rfl, rfl⟩, trivial⟩ (by repeat' first | exact True.intro | exact rfl | exact ⟨rfl, rfl⟩ | refine And.intro ?_ ?_) fun n0 k hI0 => ?_
                have hn0 := hI0
                have hlen : (dealT p (s :: rest) k).length = k := by simp [dealT]
                refine AWPD.seq fun K93 hK93 => ?_
                refine AWPD.seq fun K94 hK94 => ?_
                -- region 12
                refine AWPD.keep [0, 1, 2, 3, 11, 12] rfl ?_
                refine AWPD.region (tabOK.own [46]) rfl ?_
                refine hK94 _ _ ?_
                clear hK94
                first | refine AWPD.condP rfl (fun h4 => ?_) (fun h4 => ?_) | refine AWPD.condN rfl (fun h4 => ?_) (fun h4 => ?_) | refine AWPD.condAP rfl (fun h4 => ?_) (fun h4 => ?_) | refine AWPD.condOP rfl (fun h4 => ?_) (fun h4 => ?_) | refine AWPD.condONN rfl (fun h4 => ?_) (fun h4 => ?_) | refine AWPD.condOPN rfl (fun h4 => ?_) (fun h4 => ?_) | refine AWPD.condA rfl (fun h4 => ?_) (fun h4 => ?_) | refine AWPD.condO rfl (fun h4 => ?_) (fun h4 => ?_) | refine AWPD.cond rfl (fun h4 => ?_) (fun h4 => ?_)
                · try dsimp only [Ty.T] at h4
                  try simp only [castL_self] at h4
                  try simp only [Int.toNat_natCast] at h4
                  try simp only [Int.toNat_zero] at h4
                  have hkm : k < m.toNat := by omega
                  refine AWPD.skip ?_
                  refine hK93 _ _ ?_
                  clear hK93
                  refine AWPD.seq fun K95 hK95 => ?_
                  refine AWPD.block ?_
                  refine AWPD.seq fun K96 hK96 => ?_
                  -- region 14
                  refine AWPD.keep [0, 1, 2, 3, 11, 12] rfl ?_
                  refine AWPD.region (tabOK.own [46]) rfl ?_
                  refine hK96 _ _ ?_
                  clear hK96
                  refine AWPD.seq fun K97 hK97 => ?_
                  -- region 15
                  refine AWPD.keep [0, 1, 2, 3, 11, 12, 13] rfl ?_
                  refine AWPD.region (tabOK.own [46]) rfl ?_
                  refine hK97 _ _ ?_
                  clear hK97
                  refine AWPD.seq fun K98 hK98 => ?_
                  refine AWPD.seq fun K99 hK99 => ?_
                  -- region 16
                  refine AWPD.keep [0, 1, 2, 3, 11, 12, 13, 14] rfl ?_
                  refine AWPD.region (tabOK.own [46]) rfl ?_
                  refine hK99 _ _ ?_
                  clear hK99
                  refine AWPD.block ?_
                  -- LOOP 1 live [0, 1, 2, 3, 11, 12, 13, 14, 15] changed [13, 14, 15]
                  refine AWPD.loopK (σ := Nat) [0, 1, 2, 3, 12] (fun i base => (11, .ob 0) :: (13, .i (docV p ((k : Int) + 1) s rest i)) :: (14, .i (pwV p ((k : Int) + 1) i)) :: (15, .i (i : Int)) :: base) (fun i => [.row 61 .two (dealT p (s :: rest) k)]) (fun n i => n + i = rest.length) (rest.length) 0 [0] rfl rfl (by omega) (by decide) ⟨⟨rfl, rfl, rfl⟩, trivial⟩ (by repeat' first | exact True.intro | exact rfl | exact ⟨rfl, rfl⟩ | refine And.intro ?_ ?_) fun n1 i hI1 => ?_
                  have hn1 := hI1
                  have hdi := docV_in (x := (k : Int) + 1) (rest := rest) hp.1 hs i
                  have hpi := pwV_in (x := (k : Int) + 1) hp.1 i
                  refine AWPD.seq fun K100 hK100 => ?_
                  refine AWPD.seq fun K101 hK101 => ?_
                  -- region 17
                  refine AWPD.keep [0, 1, 2, 3, 11, 12, 13, 14, 15] rfl ?_
                  refine AWPD.region (tabOK.own [46]) rfl ?_
                  refine hK101 _ _ ?_
                  clear hK101
                  first | refine AWPD.condP rfl (fun h5 => ?_) (fun h5 => ?_) | refine AWPD.condN rfl (fun h5 => ?_) (fun h5 => ?_) | refine AWPD.condAP rfl (fun h5 => ?_) (fun h5 => ?_) | refine AWPD.condOP rfl (fun h5 => ?_) (fun h5 => ?_) | refine AWPD.condONN rfl (fun h5 => ?_) (fun h5 => ?_) | refine AWPD.condOPN rfl (fun h5 => ?_) (fun h5 => ?_) | refine AWPD.condA rfl (fun h5 => ?_) (fun h5 => ?_) | refine AWPD.condO rfl (fun h5 => ?_) (fun h5 => ?_) | refine AWPD.cond rfl (fun h5 => ?_) (fun h5 => ?_)
                  · try dsimp only [Ty.T] at h5
                    try simp only [castL_self] at h5
                    try simp only [Int.toNat_natCast] at h5
                    try simp only [Int.toNat_zero] at h5
                    have hil : i < rest.length := by omega
                    have hri := hrin _ (getD_mem hil 0)
                    have hpn := pwV_in (x := (k : Int) + 1) hp.1 (i + 1)
                    have hm1 := mul_b (a := pwV p ((k : Int) + 1) i) (b := (k : Int) + 1) (by omega) (by omega)
                    have hm2 := mul_b (a := rest.getD i 0) (b := pwV p ((k : Int) + 1) (i + 1)) (by omega) (by omega)
                    have hm0 : 0 ≤ rest.getD i 0 * pwV p ((k : Int) + 1) (i + 1) := Int.mul_nonneg (by omega) (by omega)
                    have hm9 : 0 ≤ pwV p ((k : Int) + 1) i * ((k : Int) + 1) := Int.mul_nonneg (by omega) (by omega)
                    have hpe : pwV p ((k : Int) + 1) i * ((k : Int) + 1) % p = pwV p ((k : Int) + 1) (i + 1) := rfl
                    refine AWPD.skip ?_
                    refine hK100 _ _ ?_
                    clear hK100
                    refine AWPD.seq fun K102 hK102 => ?_
                    refine AWPD.block ?_
                    refine AWPD.seq fun K103 hK103 => ?_
                    -- region 19
                    refine AWPD.keep [0, 1, 2, 3, 11, 12, 13, 14, 15] rfl ?_
                    refine AWPD.region (tabOK.own [46]) rfl ?_
                    repeat refine And.intro (by first | (intro hg; first | exact absurd hg (by decide) | (have h9 : fieldE p = 0 := (by simp at hg; first | exact hg | exact hg.1 | exact hg.1.1); have h8 := fieldE_in h9; omega)) | exact fun h => h | exact fun _ => rfl | (intro h; rw [h]; rfl) | omega | (intros; (try dsimp only [Ty.T, Ty.size]); (try simp only [castL_self, Int.toNat_natCast, Int.toNat_zero, Int.toNat_one, true_and, List.length_append, List.length_set, List.length_drop, List.length_take, List.length_replicate, List.length_cons, List.length_nil, Nat.zero_add, Nat.mul_one]); omega) | decide | (intros; simp_all; done) | (intros; simp_all; omega)) ?_
                    refine hK103 _ _ ?_
                    clear hK103
                    -- region 20
                    rw [hpe]
                    refine AWPD.keep [0, 1, 2, 3, 11, 12, 13, 14, 15] rfl ?_
                    refine AWPD.region (tabOK.own [46]) rfl ?_
                    repeat refine And.intro (by first | (intro hg; first | exact absurd hg (by decide) | (have h9 : fieldE p = 0 := (by simp at hg; first | exact hg | exact hg.1 | exact hg.1.1); have h8 := fieldE_in h9; omega)) | exact fun h => h | exact fun _ => rfl | (intro h; rw [h]; rfl) | omega | (intros; (try dsimp only [Ty.T, Ty.size]); (try simp only [castL_self, Int.toNat_natCast, Int.toNat_zero, Int.toNat_one, true_and, List.length_append, List.length_set, List.length_drop, List.length_take, List.length_replicate, List.length_cons, List.length_nil, Nat.zero_add, Nat.mul_one]); omega) | decide | (intros; simp_all; done) | (intros; simp_all; omega)) ?_
                    refine hK102 _ _ ?_
                    clear hK102
                    -- region 18
                    refine AWPD.keep [0, 1, 2, 3, 11, 12, 13, 14, 15] rfl ?_
                    refine AWPD.region (tabOK.own [46]) rfl ?_
                    repeat refine And.intro (by first | (intro hg; first | exact absurd hg (by decide) | (have h9 : fieldE p = 0 := (by simp at hg; first | exact hg | exact hg.1 | exact hg.1.1); have h8 := fieldE_in h9; omega)) | exact fun h => h | exact fun _ => rfl | (intro h; rw [h]; rfl) | omega | (intros; (try dsimp only [Ty.T, Ty.size]); (try simp only [castL_self, Int.toNat_natCast, Int.toNat_zero, Int.toNat_one, true_and, List.length_append, List.length_set, List.length_drop, List.length_take, List.length_replicate, List.length_cons, List.length_nil, Nat.zero_add, Nat.mul_one]); omega) | decide | (intros; simp_all; done) | (intros; simp_all; omega)) ?_
                    refine ⟨n1 - 1, i + 1, [0], by omega, by omega, ⟨by decide, rfl⟩, ⟨⟨rfl, rfl, rfl⟩, trivial⟩, ?_⟩
                    repeat' first | exact True.intro | exact rfl | exact ⟨rfl, rfl⟩ | refine And.intro ?_ ?_
                  · try dsimp only [Ty.T] at h5
                    try simp only [castL_self] at h5
                    try simp only [Int.toNat_natCast] at h5
                    try simp only [Int.toNat_zero] at h5
                    have hil : i = rest.length := by omega
                    have hda : docV p ((k : Int) + 1) s rest i = atV p ((k : Int) + 1) (s :: rest) := by rw [hil]; exact docV_all hp.1 hs
                    refine AWPD.exit ?_
                    refine hK98 _ _ ?_
                    clear hK98
                    -- region 21
                    refine AWPD.keep [0, 1, 2, 3, 11, 12, 13] rfl ?_
                    refine AWPD.region (tabOK.own [46]) rfl ?_
                    repeat refine And.intro (by first | (intro hg; first | exact absurd hg (by decide) | (have h9 : fieldE p = 0 := (by simp at hg; first | exact hg | exact hg.1 | exact hg.1.1); have h8 := fieldE_in h9; omega)) | exact fun h => h | exact fun _ => rfl | (intro h; rw [h]; rfl) | omega | (intros; (try dsimp only [Ty.T, Ty.size]); (try simp only [castL_self, Int.toNat_natCast, Int.toNat_zero, Int.toNat_one, true_and, List.length_append, List.length_set, List.length_drop, List.length_take, List.length_replicate, List.length_cons, List.length_nil, Nat.zero_add, Nat.mul_one]); omega) | decide | (intros; simp_all; done) | (intros; simp_all; omega)) ?_
                    refine hK95 _ _ ?_
                    clear hK95
                    -- region 13
                    refine AWPD.keep [0, 1, 2, 3, 11, 12] rfl ?_
                    refine AWPD.region (tabOK.own [46]) rfl ?_
                    repeat refine And.intro (by first | (intro hg; first | exact absurd hg (by decide) | (have h9 : fieldE p = 0 := (by simp at hg; first | exact hg | exact hg.1 | exact hg.1.1); have h8 := fieldE_in h9; omega)) | exact fun h => h | exact fun _ => rfl | (intro h; rw [h]; rfl) | omega | (intros; (try dsimp only [Ty.T, Ty.size]); (try simp only [castL_self, Int.toNat_natCast, Int.toNat_zero, Int.toNat_one, true_and, List.length_append, List.length_set, List.length_drop, List.length_take, List.length_replicate, List.length_cons, List.length_nil, Nat.zero_add, Nat.mul_one]); omega) | decide | (intros; simp_all; done) | (intros; simp_all; omega)) ?_
                    refine ⟨n0 - 1, k + 1, [1], by omega, by omega, ⟨by decide, rfl⟩, ⟨⟨rfl, rfl, (by rw [← dealT_step]; show dealT p (s :: rest) k ++ [((k : Int) + 1, docV p ((k : Int) + 1) s rest i)] = _; rw [hda])⟩, trivial⟩, ?_⟩
                    repeat' first | exact True.intro | exact rfl | exact ⟨rfl, rfl⟩ | refine And.intro ?_ ?_
                · try dsimp only [Ty.T] at h4
                  try simp only [castL_self] at h4
                  try simp only [Int.toNat_natCast] at h4
                  try simp only [Int.toNat_zero] at h4
                  have hkm : k = m.toNat := by omega
                  refine AWPD.exit ?_
                  refine hK91 _ _ ?_
                  clear hK91
                  refine AWPD.seq fun K104 hK104 => ?_
                  -- region 22
                  refine AWPD.keep [11] rfl ?_
                  refine AWPD.region (tabOK.own [46]) rfl ?_
                  refine hK104 _ _ ?_
                  clear hK104
                  refine AWPD.ret (And.intro (.inl rfl) ?_)
                  -- result 9
                  first
                    | exact ⟨fitN rfl (by first | (unfold dealL; rw [hE]; rfl) | (unfold dealL; rw [hE, if_neg h3])) (by decide), fitI rfl hE.symm⟩
                    | exact ⟨fitR rfl rfl (by unfold dealL; rw [if_pos hE, hkm]), fitI rfl hE.symm⟩
        · try dsimp only [Ty.T] at h2
          try simp only [castL_self] at h2
          try simp only [Int.toNat_natCast] at h2
          try simp only [Int.toNat_zero] at h2
          first | have hb : fieldE p = 0 → _ := fun hh => c2_f (gif_f h2 hh) | skip
          refine AWPD.skip ?_
          refine hK85 _ _ ?_
          clear hK85
          refine AWPD.seq fun K105 hK105 => ?_
          refine AWPD.seq fun K106 hK106 => ?_
          -- region 8
          refine AWPD.keep [0, 1, 2, 3, 10] rfl ?_
          refine AWPD.region (tabOK.own [46]) rfl ?_
          refine hK106 _ _ ?_
          clear hK106
          first | refine AWPD.condP rfl (fun h3 => ?_) (fun h3 => ?_) | refine AWPD.condN rfl (fun h3 => ?_) (fun h3 => ?_) | refine AWPD.condAP rfl (fun h3 => ?_) (fun h3 => ?_) | refine AWPD.condOP rfl (fun h3 => ?_) (fun h3 => ?_) | refine AWPD.condONN rfl (fun h3 => ?_) (fun h3 => ?_) | refine AWPD.condOPN rfl (fun h3 => ?_) (fun h3 => ?_) | refine AWPD.condA rfl (fun h3 => ?_) (fun h3 => ?_) | refine AWPD.condO rfl (fun h3 => ?_) (fun h3 => ?_) | refine AWPD.cond rfl (fun h3 => ?_) (fun h3 => ?_)
          · try dsimp only [Ty.T] at h3
            try simp only [castL_self] at h3
            try simp only [Int.toNat_natCast] at h3
            try simp only [Int.toNat_zero] at h3
            try have hE := deal_f (s := s) (rest := rest) (m := m) h3
            refine AWPD.seq fun K107 hK107 => ?_
            -- region 9
            refine AWPD.keep [10] rfl ?_
            refine AWPD.region (tabOK.own [46]) rfl ?_
            refine hK107 _ _ ?_
            clear hK107
            refine AWPD.ret (And.intro (.inl rfl) ?_)
            -- result 10
            first
              | exact ⟨fitN rfl (by first | (unfold dealL; rw [hE]; rfl) | (unfold dealL; rw [hE, if_neg h3])) (by decide), fitI rfl hE.symm⟩
              | exact ⟨fitR rfl rfl (by unfold dealL; rw [if_pos hE, hkm]), fitI rfl hE.symm⟩
          · try dsimp only [Ty.T] at h3
            try simp only [castL_self] at h3
            try simp only [Int.toNat_natCast] at h3
            try simp only [Int.toNat_zero] at h3
            try (exact absurd (by decide) h3; done)
            all_goals
              have hf : fieldE p = 0 := by omega
              have hp := fieldE_in hf
              have hs := hs hf
              have hl12 := hl12 hf
              have hb := hb hf
              rw [decide_eq_true_eq] at hb
              have hE := deal_0 hf hs hl12 hb
              have hrin := allE_in hb.1
              refine AWPD.skip ?_
              refine hK105 _ _ ?_
              clear hK105
              refine AWPD.seq fun K108 hK108 => ?_
              -- region 10
              refine AWPD.keep [0, 1, 2, 3] rfl ?_
              refine AWPD.region (tabOK.own [46]) rfl ?_
              refine hK108 _ _ ?_
              clear hK108
              refine AWPD.seq fun K109 hK109 => ?_
              refine AWPD.seq fun K110 hK110 => ?_
              -- region 11
              refine AWPD.keep [0, 1, 2, 3, 11] rfl ?_
              refine AWPD.region (tabOK.own [46]) rfl ?_
              refine hK110 _ _ ?_
              clear hK110
              refine AWPD.block ?_
              -- LOOP 0 live [0, 1, 2, 3, 11, 12] changed [11, 12]
              refine AWPD.nilRow 11 61 .two rfl (by decide) ?_
              refine AWPD.loopK (σ := Nat) [0, 1, 2, 3] (fun k base => (11, .ob 0) :: (12, .i ((k : Int) + 1)) :: base) (fun k => [.row 61 .two (dealT p (s :: rest) k)]) (fun n k => n + k = m.toNat) (m.toNat) 0 [0] rfl rfl (by omega) (by decide) ⟨⟨rfl, rfl, rfl⟩, trivial⟩ (by repeat' first | exact True.intro | exact rfl | exact ⟨rfl, rfl⟩ | refine And.intro ?_ ?_) fun n0 k hI0 => ?_
              have hn0 := hI0
              have hlen : (dealT p (s :: rest) k).length = k := by simp [dealT]
              refine AWPD.seq fun K111 hK111 => ?_
              refine AWPD.seq fun K112 hK112 => ?_
              -- region 12
              refine AWPD.keep [0, 1, 2, 3, 11, 12] rfl ?_
              refine AWPD.region (tabOK.own [46]) rfl ?_
              refine hK112 _ _ ?_
              clear hK112
              first | refine AWPD.condP rfl (fun h4 => ?_) (fun h4 => ?_) | refine AWPD.condN rfl (fun h4 => ?_) (fun h4 => ?_) | refine AWPD.condAP rfl (fun h4 => ?_) (fun h4 => ?_) | refine AWPD.condOP rfl (fun h4 => ?_) (fun h4 => ?_) | refine AWPD.condONN rfl (fun h4 => ?_) (fun h4 => ?_) | refine AWPD.condOPN rfl (fun h4 => ?_) (fun h4 => ?_) | refine AWPD.condA rfl (fun h4 => ?_) (fun h4 => ?_) | refine AWPD.condO rfl (fun h4 => ?_) (fun h4 => ?_) | refine AWPD.cond rfl (fun h4 => ?_) (fun h4 => ?_)
              · try dsimp only [Ty.T] at h4
                try simp only [castL_self] at h4
                try simp only [Int.toNat_natCast] at h4
                try simp only [Int.toNat_zero] at h4
                have hkm : k < m.toNat := by omega
                refine AWPD.skip ?_
                refine hK111 _ _ ?_
                clear hK111
                refine AWPD.seq fun K113 hK113 => ?_
                refine AWPD.block ?_
                refine AWPD.seq fun K114 hK114 => ?_
                -- region 14
                refine AWPD.keep [0, 1, 2, 3, 11, 12] rfl ?_
                refine AWPD.region (tabOK.own [46]) rfl ?_
                refine hK114 _ _ ?_
                clear hK114
                refine AWPD.seq fun K115 hK115 => ?_
                -- region 15
                refine AWPD.keep [0, 1, 2, 3, 11, 12, 13] rfl ?_
                refine AWPD.region (tabOK.own [46]) rfl ?_
                refine hK115 _ _ ?_
                clear hK115
                refine AWPD.seq fun K116 hK116 => ?_
                refine AWPD.seq fun K117 hK117 => ?_
                -- region 16
                refine AWPD.keep [0, 1, 2, 3, 11, 12, 13, 14] rfl ?_
                refine AWPD.region (tabOK.own [46]) rfl ?_
                refine hK117 _ _ ?_
                clear hK117
                refine AWPD.block ?_
                -- LOOP 1 live [0, 1, 2, 3, 11, 12, 13, 14, 15] changed [13, 14, 15]
                refine AWPD.loopK (σ := Nat) [0, 1, 2, 3, 12] (fun i base => (11, .ob 0) :: (13, .i (docV p ((k : Int) + 1) s rest i)) :: (14, .i (pwV p ((k : Int) + 1) i)) :: (15, .i (i : Int)) :: base) (fun i => [.row 61 .two (dealT p (s :: rest) k)]) (fun n i => n + i = rest.length) (rest.length) 0 [0] rfl rfl (by omega) (by decide) ⟨⟨rfl, rfl, rfl⟩, trivial⟩ (by repeat' first | exact True.intro | exact rfl | exact ⟨rfl, rfl⟩ | refine And.intro ?_ ?_) fun n1 i hI1 => ?_
                have hn1 := hI1
                have hdi := docV_in (x := (k : Int) + 1) (rest := rest) hp.1 hs i
                have hpi := pwV_in (x := (k : Int) + 1) hp.1 i
                refine AWPD.seq fun K118 hK118 => ?_
                refine AWPD.seq fun K119 hK119 => ?_
                -- region 17
                refine AWPD.keep [0, 1, 2, 3, 11, 12, 13, 14, 15] rfl ?_
                refine AWPD.region (tabOK.own [46]) rfl ?_
                refine hK119 _ _ ?_
                clear hK119
                first | refine AWPD.condP rfl (fun h5 => ?_) (fun h5 => ?_) | refine AWPD.condN rfl (fun h5 => ?_) (fun h5 => ?_) | refine AWPD.condAP rfl (fun h5 => ?_) (fun h5 => ?_) | refine AWPD.condOP rfl (fun h5 => ?_) (fun h5 => ?_) | refine AWPD.condONN rfl (fun h5 => ?_) (fun h5 => ?_) | refine AWPD.condOPN rfl (fun h5 => ?_) (fun h5 => ?_) | refine AWPD.condA rfl (fun h5 => ?_) (fun h5 => ?_) | refine AWPD.condO rfl (fun h5 => ?_) (fun h5 => ?_) | refine AWPD.cond rfl (fun h5 => ?_) (fun h5 => ?_)
                · try dsimp only [Ty.T] at h5
                  try simp only [castL_self] at h5
                  try simp only [Int.toNat_natCast] at h5
                  try simp only [Int.toNat_zero] at h5
                  have hil : i < rest.length := by omega
                  have hri := hrin _ (getD_mem hil 0)
                  have hpn := pwV_in (x := (k : Int) + 1) hp.1 (i + 1)
                  have hm1 := mul_b (a := pwV p ((k : Int) + 1) i) (b := (k : Int) + 1) (by omega) (by omega)
                  have hm2 := mul_b (a := rest.getD i 0) (b := pwV p ((k : Int) + 1) (i + 1)) (by omega) (by omega)
                  have hm0 : 0 ≤ rest.getD i 0 * pwV p ((k : Int) + 1) (i + 1) := Int.mul_nonneg (by omega) (by omega)
                  have hm9 : 0 ≤ pwV p ((k : Int) + 1) i * ((k : Int) + 1) := Int.mul_nonneg (by omega) (by omega)
                  have hpe : pwV p ((k : Int) + 1) i * ((k : Int) + 1) % p = pwV p ((k : Int) + 1) (i + 1) := rfl
                  refine AWPD.skip ?_
                  refine hK118 _ _ ?_
                  clear hK118
                  refine AWPD.seq fun K120 hK120 => ?_
                  refine AWPD.block ?_
                  refine AWPD.seq fun K121 hK121 => ?_
                  -- region 19
                  refine AWPD.keep [0, 1, 2, 3, 11, 12, 13, 14, 15] rfl ?_
                  refine AWPD.region (tabOK.own [46]) rfl ?_
                  repeat refine And.intro (by first | (intro hg; first | exact absurd hg (by decide) | (have h9 : fieldE p = 0 := (by simp at hg; first | exact hg | exact hg.1 | exact hg.1.1); have h8 := fieldE_in h9; omega)) | exact fun h => h | exact fun _ => rfl | (intro h; rw [h]; rfl) | omega | (intros; (try dsimp only [Ty.T, Ty.size]); (try simp only [castL_self, Int.toNat_natCast, Int.toNat_zero, Int.toNat_one, true_and, List.length_append, List.length_set, List.length_drop, List.length_take, List.length_replicate, List.length_cons, List.length_nil, Nat.zero_add, Nat.mul_one]); omega) | decide | (intros; simp_all; done) | (intros; simp_all; omega)) ?_
                  refine hK121 _ _ ?_
                  clear hK121
                  -- region 20
                  rw [hpe]
                  refine AWPD.keep [0, 1, 2, 3, 11, 12, 13, 14, 15] rfl ?_
                  refine AWPD.region (tabOK.own [46]) rfl ?_
                  repeat refine And.intro (by first | (intro hg; first | exact absurd hg (by decide) | (have h9 : fieldE p = 0 := (by simp at hg; first | exact hg | exact hg.1 | exact hg.1.1); have h8 := fieldE_in h9; omega)) | exact fun h => h | exact fun _ => rfl | (intro h; rw [h]; rfl) | omega | (intros; (try dsimp only [Ty.T, Ty.size]); (try simp only [castL_self, Int.toNat_natCast, Int.toNat_zero, Int.toNat_one, true_and, List.length_append, List.length_set, List.length_drop, List.length_take, List.length_replicate, List.length_cons, List.length_nil, Nat.zero_add, Nat.mul_one]); omega) | decide | (intros; simp_all; done) | (intros; simp_all; omega)) ?_
                  refine hK120 _ _ ?_
                  clear hK120
                  -- region 18
                  refine AWPD.keep [0, 1, 2, 3, 11, 12, 13, 14, 15] rfl ?_
                  refine AWPD.region (tabOK.own [46]) rfl ?_
                  repeat refine And.intro (by first | (intro hg; first | exact absurd hg (by decide) | (have h9 : fieldE p = 0 := (by simp at hg; first | exact hg | exact hg.1 | exact hg.1.1); have h8 := fieldE_in h9; omega)) | exact fun h => h | exact fun _ => rfl | (intro h; rw [h]; rfl) | omega | (intros; (try dsimp only [Ty.T, Ty.size]); (try simp only [castL_self, Int.toNat_natCast, Int.toNat_zero, Int.toNat_one, true_and, List.length_append, List.length_set, List.length_drop, List.length_take, List.length_replicate, List.length_cons, List.length_nil, Nat.zero_add, Nat.mul_one]); omega) | decide | (intros; simp_all; done) | (intros; simp_all; omega)) ?_
                  refine ⟨n1 - 1, i + 1, [0], by omega, by omega, ⟨by decide, rfl⟩, ⟨⟨rfl, rfl, rfl⟩, trivial⟩, ?_⟩
                  repeat' first | exact True.intro | exact rfl | exact ⟨rfl, rfl⟩ | refine And.intro ?_ ?_
                · try dsimp only [Ty.T] at h5
                  try simp only [castL_self] at h5
                  try simp only [Int.toNat_natCast] at h5
                  try simp only [Int.toNat_zero] at h5
                  have hil : i = rest.length := by omega
                  have hda : docV p ((k : Int) + 1) s rest i = atV p ((k : Int) + 1) (s :: rest) := by rw [hil]; exact docV_all hp.1 hs
                  refine AWPD.exit ?_
                  refine hK116 _ _ ?_
                  clear hK116
                  -- region 21
                  refine AWPD.keep [0, 1, 2, 3, 11, 12, 13] rfl ?_
                  refine AWPD.region (tabOK.own [46]) rfl ?_
                  repeat refine And.intro (by first | (intro hg; first | exact absurd hg (by decide) | (have h9 : fieldE p = 0 := (by simp at hg; first | exact hg | exact hg.1 | exact hg.1.1); have h8 := fieldE_in h9; omega)) | exact fun h => h | exact fun _ => rfl | (intro h; rw [h]; rfl) | omega | (intros; (try dsimp only [Ty.T, Ty.size]); (try simp only [castL_self, Int.toNat_natCast, Int.toNat_zero, Int.toNat_one, true_and, List.length_append, List.length_set, List.length_drop, List.length_take, List.length_replicate, List.length_cons, List.length_nil, Nat.zero_add, Nat.mul_one]); omega) | decide | (intros; simp_all; done) | (intros; simp_all; omega)) ?_
                  refine hK113 _ _ ?_
                  clear hK113
                  -- region 13
                  refine AWPD.keep [0, 1, 2, 3, 11, 12] rfl ?_
                  refine AWPD.region (tabOK.own [46]) rfl ?_
                  repeat refine And.intro (by first | (intro hg; first | exact absurd hg (by decide) | (have h9 : fieldE p = 0 := (by simp at hg; first | exact hg | exact hg.1 | exact hg.1.1); have h8 := fieldE_in h9; omega)) | exact fun h => h | exact fun _ => rfl | (intro h; rw [h]; rfl) | omega | (intros; (try dsimp only [Ty.T, Ty.size]); (try simp only [castL_self, Int.toNat_natCast, Int.toNat_zero, Int.toNat_one, true_and, List.length_append, List.length_set, List.length_drop, List.length_take, List.length_replicate, List.length_cons, List.length_nil, Nat.zero_add, Nat.mul_one]); omega) | decide | (intros; simp_all; done) | (intros; simp_all; omega)) ?_
                  refine ⟨n0 - 1, k + 1, [1], by omega, by omega, ⟨by decide, rfl⟩, ⟨⟨rfl, rfl, (by rw [← dealT_step]; show dealT p (s :: rest) k ++ [((k : Int) + 1, docV p ((k : Int) + 1) s rest i)] = _; rw [hda])⟩, trivial⟩, ?_⟩
                  repeat' first | exact True.intro | exact rfl | exact ⟨rfl, rfl⟩ | refine And.intro ?_ ?_
              · try dsimp only [Ty.T] at h4
                try simp only [castL_self] at h4
                try simp only [Int.toNat_natCast] at h4
                try simp only [Int.toNat_zero] at h4
                have hkm : k = m.toNat := by omega
                refine AWPD.exit ?_
                refine hK109 _ _ ?_
                clear hK109
                refine AWPD.seq fun K122 hK122 => ?_
                -- region 22
                refine AWPD.keep [11] rfl ?_
                refine AWPD.region (tabOK.own [46]) rfl ?_
                refine hK122 _ _ ?_
                clear hK122
                refine AWPD.ret (And.intro (.inl rfl) ?_)
                -- result 11
                first
                  | exact ⟨fitN rfl (by first | (unfold dealL; rw [hE]; rfl) | (unfold dealL; rw [hE, if_neg h3])) (by decide), fitI rfl hE.symm⟩
                  | exact ⟨fitR rfl rfl (by unfold dealL; rw [if_pos hE, hkm]), fitI rfl hE.symm⟩
    · try dsimp only [Ty.T] at h1
      try simp only [castL_self] at h1
      try simp only [Int.toNat_natCast] at h1
      try simp only [Int.toNat_zero] at h1
      first | have hl12 : fieldE p = 0 → ¬12 ≤ rest.length := fun hh => by (have := of_decide_eq_false (gif_f h1 hh); omega) | skip
      refine AWPD.skip ?_
      refine hK83 _ _ ?_
      clear hK83
      refine AWPD.seq fun K123 hK123 => ?_
      refine AWPD.seq fun K124 hK124 => ?_
      -- region 6
      refine AWPD.keep [0, 1, 2, 3, 10] rfl ?_
      refine AWPD.region (tabOK.own [46]) rfl ?_
      repeat refine And.intro (by first | (intro hg; first | exact absurd hg (by decide) | (have h9 : fieldE p = 0 := (by simp at hg; first | exact hg | exact hg.1 | exact hg.1.1); have h8 := fieldE_in h9; omega)) | exact fun h => h | exact fun _ => rfl | (intro h; rw [h]; rfl) | omega | (intros; (try dsimp only [Ty.T, Ty.size]); (try simp only [castL_self, Int.toNat_natCast, Int.toNat_zero, Int.toNat_one, true_and, List.length_append, List.length_set, List.length_drop, List.length_take, List.length_replicate, List.length_cons, List.length_nil, Nat.zero_add, Nat.mul_one]); omega) | decide | (intros; simp_all; done) | (intros; simp_all; omega)) ?_
      refine Exists.intro _ (Exists.intro _ (And.intro (fun hg => StepD.call (rall_fn p rest (by first | exact absurd hg (by decide) | (have h9 : fieldE p = 0 := (by simp at hg; first | exact hg | exact hg.1 | exact hg.1.1); have h8 := fieldE_in h9; omega)) (by first | exact absurd hg (by decide) | (have h9 : fieldE p = 0 := (by simp at hg; first | exact hg | exact hg.1 | exact hg.1.1); have h8 := hl12 h9; omega))) rfl rfl rfl) (And.intro (fun hf => rfl) (And.intro rfl (And.intro trivial ?_)))))
      repeat refine And.intro (by first | (intro hg; first | exact absurd hg (by decide) | (have h9 : fieldE p = 0 := (by simp at hg; first | exact hg | exact hg.1 | exact hg.1.1); have h8 := fieldE_in h9; omega)) | exact fun h => h | exact fun _ => rfl | (intro h; rw [h]; rfl) | omega | (intros; (try dsimp only [Ty.T, Ty.size]); (try simp only [castL_self, Int.toNat_natCast, Int.toNat_zero, Int.toNat_one, true_and, List.length_append, List.length_set, List.length_drop, List.length_take, List.length_replicate, List.length_cons, List.length_nil, Nat.zero_add, Nat.mul_one]); omega) | decide | (intros; simp_all; done) | (intros; simp_all; omega)) ?_
      refine Exists.intro _ (Exists.intro _ (And.intro (fun hg => StepD.call (in4_fn _ _ _) rfl rfl rfl) (And.intro (fun hf => rfl) (And.intro rfl (And.intro trivial ?_)))))
      repeat refine And.intro (by first | (intro hg; first | exact absurd hg (by decide) | (have h9 : fieldE p = 0 := (by simp at hg; first | exact hg | exact hg.1 | exact hg.1.1); have h8 := fieldE_in h9; omega)) | exact fun h => h | exact fun _ => rfl | (intro h; rw [h]; rfl) | omega | (intros; (try dsimp only [Ty.T, Ty.size]); (try simp only [castL_self, Int.toNat_natCast, Int.toNat_zero, Int.toNat_one, true_and, List.length_append, List.length_set, List.length_drop, List.length_take, List.length_replicate, List.length_cons, List.length_nil, Nat.zero_add, Nat.mul_one]); omega) | decide | (intros; simp_all; done) | (intros; simp_all; omega)) ?_
      refine hK124 _ _ ?_
      clear hK124
      first | refine AWPD.cond rfl (fun h2 => ?_) (fun h2 => ?_)
      · try dsimp only [Ty.T] at h2
        try simp only [castL_self] at h2
        try simp only [Int.toNat_natCast] at h2
        try simp only [Int.toNat_zero] at h2
        try (simp at h2; done)
        all_goals
          have hc2 := gif_t h2
          have hf := hc2.1
          have hb2 := c2_t hc2.2
          rw [decide_eq_true_eq] at hb2
          have hE := deal_1b hf (hs hf) (hl12 hf) hb2
          -- region 7
          refine AWPD.keep [0, 1, 2, 3] rfl ?_
          refine AWPD.region (tabOK.own [46]) rfl ?_
          refine hK123 _ _ ?_
          clear hK123
          refine AWPD.seq fun K125 hK125 => ?_
          refine AWPD.seq fun K126 hK126 => ?_
          -- region 8
          refine AWPD.keep [0, 1, 2, 3, 10] rfl ?_
          refine AWPD.region (tabOK.own [46]) rfl ?_
          refine hK126 _ _ ?_
          clear hK126
          first | refine AWPD.condP rfl (fun h3 => ?_) (fun h3 => ?_) | refine AWPD.condN rfl (fun h3 => ?_) (fun h3 => ?_) | refine AWPD.condAP rfl (fun h3 => ?_) (fun h3 => ?_) | refine AWPD.condOP rfl (fun h3 => ?_) (fun h3 => ?_) | refine AWPD.condONN rfl (fun h3 => ?_) (fun h3 => ?_) | refine AWPD.condOPN rfl (fun h3 => ?_) (fun h3 => ?_) | refine AWPD.condA rfl (fun h3 => ?_) (fun h3 => ?_) | refine AWPD.condO rfl (fun h3 => ?_) (fun h3 => ?_) | refine AWPD.cond rfl (fun h3 => ?_) (fun h3 => ?_)
          · try dsimp only [Ty.T] at h3
            try simp only [castL_self] at h3
            try simp only [Int.toNat_natCast] at h3
            try simp only [Int.toNat_zero] at h3
            try have hE := deal_f (s := s) (rest := rest) (m := m) h3
            refine AWPD.seq fun K127 hK127 => ?_
            -- region 9
            refine AWPD.keep [10] rfl ?_
            refine AWPD.region (tabOK.own [46]) rfl ?_
            refine hK127 _ _ ?_
            clear hK127
            refine AWPD.ret (And.intro (.inl rfl) ?_)
            -- result 12
            first
              | exact ⟨fitN rfl (by first | (unfold dealL; rw [hE]; rfl) | (unfold dealL; rw [hE, if_neg h3])) (by decide), fitI rfl hE.symm⟩
              | exact ⟨fitR rfl rfl (by unfold dealL; rw [if_pos hE, hkm]), fitI rfl hE.symm⟩
          · try dsimp only [Ty.T] at h3
            try simp only [castL_self] at h3
            try simp only [Int.toNat_natCast] at h3
            try simp only [Int.toNat_zero] at h3
            try (exact absurd (by decide) h3; done)
            all_goals
              have hf : fieldE p = 0 := by omega
              have hp := fieldE_in hf
              have hs := hs hf
              have hl12 := hl12 hf
              have hb := hb hf
              rw [decide_eq_true_eq] at hb
              have hE := deal_0 hf hs hl12 hb
              have hrin := allE_in hb.1
              refine AWPD.skip ?_
              refine hK125 _ _ ?_
              clear hK125
              refine AWPD.seq fun K128 hK128 => ?_
              -- region 10
              refine AWPD.keep [0, 1, 2, 3] rfl ?_
              refine AWPD.region (tabOK.own [46]) rfl ?_
              refine hK128 _ _ ?_
              clear hK128
              refine AWPD.seq fun K129 hK129 => ?_
              refine AWPD.seq fun K130 hK130 => ?_
              -- region 11
              refine AWPD.keep [0, 1, 2, 3, 11] rfl ?_
              refine AWPD.region (tabOK.own [46]) rfl ?_
              refine hK130 _ _ ?_
              clear hK130
              refine AWPD.block ?_
              -- LOOP 0 live [0, 1, 2, 3, 11, 12] changed [11, 12]
              refine AWPD.nilRow 11 61 .two rfl (by decide) ?_
              refine AWPD.loopK (σ := Nat) [0, 1, 2, 3] (fun k base => (11, .ob 0) :: (12, .i ((k : Int) + 1)) :: base) (fun k => [.row 61 .two (dealT p (s :: rest) k)]) (fun n k => n + k = m.toNat) (m.toNat) 0 [0] rfl rfl (by omega) (by decide) ⟨⟨rfl, rfl, rfl⟩, trivial⟩ (by repeat' first | exact True.intro | exact rfl | exact ⟨rfl, rfl⟩ | refine And.intro ?_ ?_) fun n0 k hI0 => ?_
              have hn0 := hI0
              have hlen : (dealT p (s :: rest) k).length = k := by simp [dealT]
              refine AWPD.seq fun K131 hK131 => ?_
              refine AWPD.seq fun K132 hK132 => ?_
              -- region 12
              refine AWPD.keep [0, 1, 2, 3, 11, 12] rfl ?_
              refine AWPD.region (tabOK.own [46]) rfl ?_
              refine hK132 _ _ ?_
              clear hK132
              first | refine AWPD.condP rfl (fun h4 => ?_) (fun h4 => ?_) | refine AWPD.condN rfl (fun h4 => ?_) (fun h4 => ?_) | refine AWPD.condAP rfl (fun h4 => ?_) (fun h4 => ?_) | refine AWPD.condOP rfl (fun h4 => ?_) (fun h4 => ?_) | refine AWPD.condONN rfl (fun h4 => ?_) (fun h4 => ?_) | refine AWPD.condOPN rfl (fun h4 => ?_) (fun h4 => ?_) | refine AWPD.condA rfl (fun h4 => ?_) (fun h4 => ?_) | refine AWPD.condO rfl (fun h4 => ?_) (fun h4 => ?_) | refine AWPD.cond rfl (fun h4 => ?_) (fun h4 => ?_)
              · try dsimp only [Ty.T] at h4
                try simp only [castL_self] at h4
                try simp only [Int.toNat_natCast] at h4
                try simp only [Int.toNat_zero] at h4
                have hkm : k < m.toNat := by omega
                refine AWPD.skip ?_
                refine hK131 _ _ ?_
                clear hK131
                refine AWPD.seq fun K133 hK133 => ?_
                refine AWPD.block ?_
                refine AWPD.seq fun K134 hK134 => ?_
                -- region 14
                refine AWPD.keep [0, 1, 2, 3, 11, 12] rfl ?_
                refine AWPD.region (tabOK.own [46]) rfl ?_
                refine hK134 _ _ ?_
                clear hK134
                refine AWPD.seq fun K135 hK135 => ?_
                -- region 15
                refine AWPD.keep [0, 1, 2, 3, 11, 12, 13] rfl ?_
                refine AWPD.region (tabOK.own [46]) rfl ?_
                refine hK135 _ _ ?_
                clear hK135
                refine AWPD.seq fun K136 hK136 => ?_
                refine AWPD.seq fun K137 hK137 => ?_
                -- region 16
                refine AWPD.keep [0, 1, 2, 3, 11, 12, 13, 14] rfl ?_
                refine AWPD.region (tabOK.own [46]) rfl ?_
                refine hK137 _ _ ?_
                clear hK137
                refine AWPD.block ?_
                -- LOOP 1 live [0, 1, 2, 3, 11, 12, 13, 14, 15] changed [13, 14, 15]
                refine AWPD.loopK (σ := Nat) [0, 1, 2, 3, 12] (fun i base => (11, .ob 0) :: (13, .i (docV p ((k : Int) + 1) s rest i)) :: (14, .i (pwV p ((k : Int) + 1) i)) :: (15, .i (i : Int)) :: base) (fun i => [.row 61 .two (dealT p (s :: rest) k)]) (fun n i => n + i = rest.length) (rest.length) 0 [0] rfl rfl (by omega) (by decide) ⟨⟨rfl, rfl, rfl⟩, trivial⟩ (by repeat' first | exact True.intro | exact rfl | exact ⟨rfl, rfl⟩ | refine And.intro ?_ ?_) fun n1 i hI1 => ?_
                have hn1 := hI1
                have hdi := docV_in (x := (k : Int) + 1) (rest := rest) hp.1 hs i
                have hpi := pwV_in (x := (k : Int) + 1) hp.1 i
                refine AWPD.seq fun K138 hK138 => ?_
                refine AWPD.seq fun K139 hK139 => ?_
                -- region 17
                refine AWPD.keep [0, 1, 2, 3, 11, 12, 13, 14, 15] rfl ?_
                refine AWPD.region (tabOK.own [46]) rfl ?_
                refine hK139 _ _ ?_
                clear hK139
                first | refine AWPD.condP rfl (fun h5 => ?_) (fun h5 => ?_) | refine AWPD.condN rfl (fun h5 => ?_) (fun h5 => ?_) | refine AWPD.condAP rfl (fun h5 => ?_) (fun h5 => ?_) | refine AWPD.condOP rfl (fun h5 => ?_) (fun h5 => ?_) | refine AWPD.condONN rfl (fun h5 => ?_) (fun h5 => ?_) | refine AWPD.condOPN rfl (fun h5 => ?_) (fun h5 => ?_) | refine AWPD.condA rfl (fun h5 => ?_) (fun h5 => ?_) | refine AWPD.condO rfl (fun h5 => ?_) (fun h5 => ?_) | refine AWPD.cond rfl (fun h5 => ?_) (fun h5 => ?_)
                · try dsimp only [Ty.T] at h5
                  try simp only [castL_self] at h5
                  try simp only [Int.toNat_natCast] at h5
                  try simp only [Int.toNat_zero] at h5
                  have hil : i < rest.length := by omega
                  have hri := hrin _ (getD_mem hil 0)
                  have hpn := pwV_in (x := (k : Int) + 1) hp.1 (i + 1)
                  have hm1 := mul_b (a := pwV p ((k : Int) + 1) i) (b := (k : Int) + 1) (by omega) (by omega)
                  have hm2 := mul_b (a := rest.getD i 0) (b := pwV p ((k : Int) + 1) (i + 1)) (by omega) (by omega)
                  have hm0 : 0 ≤ rest.getD i 0 * pwV p ((k : Int) + 1) (i + 1) := Int.mul_nonneg (by omega) (by omega)
                  have hm9 : 0 ≤ pwV p ((k : Int) + 1) i * ((k : Int) + 1) := Int.mul_nonneg (by omega) (by omega)
                  have hpe : pwV p ((k : Int) + 1) i * ((k : Int) + 1) % p = pwV p ((k : Int) + 1) (i + 1) := rfl
                  refine AWPD.skip ?_
                  refine hK138 _ _ ?_
                  clear hK138
                  refine AWPD.seq fun K140 hK140 => ?_
                  refine AWPD.block ?_
                  refine AWPD.seq fun K141 hK141 => ?_
                  -- region 19
                  refine AWPD.keep [0, 1, 2, 3, 11, 12, 13, 14, 15] rfl ?_
                  refine AWPD.region (tabOK.own [46]) rfl ?_
                  repeat refine And.intro (by first | (intro hg; first | exact absurd hg (by decide) | (have h9 : fieldE p = 0 := (by simp at hg; first | exact hg | exact hg.1 | exact hg.1.1); have h8 := fieldE_in h9; omega)) | exact fun h => h | exact fun _ => rfl | (intro h; rw [h]; rfl) | omega | (intros; (try dsimp only [Ty.T, Ty.size]); (try simp only [castL_self, Int.toNat_natCast, Int.toNat_zero, Int.toNat_one, true_and, List.length_append, List.length_set, List.length_drop, List.length_take, List.length_replicate, List.length_cons, List.length_nil, Nat.zero_add, Nat.mul_one]); omega) | decide | (intros; simp_all; done) | (intros; simp_all; omega)) ?_
                  refine hK141 _ _ ?_
                  clear hK141
                  -- region 20
                  rw [hpe]
                  refine AWPD.keep [0, 1, 2, 3, 11, 12, 13, 14, 15] rfl ?_
                  refine AWPD.region (tabOK.own [46]) rfl ?_
                  repeat refine And.intro (by first | (intro hg; first | exact absurd hg (by decide) | (have h9 : fieldE p = 0 := (by simp at hg; first | exact hg | exact hg.1 | exact hg.1.1); have h8 := fieldE_in h9; omega)) | exact fun h => h | exact fun _ => rfl | (intro h; rw [h]; rfl) | omega | (intros; (try dsimp only [Ty.T, Ty.size]); (try simp only [castL_self, Int.toNat_natCast, Int.toNat_zero, Int.toNat_one, true_and, List.length_append, List.length_set, List.length_drop, List.length_take, List.length_replicate, List.length_cons, List.length_nil, Nat.zero_add, Nat.mul_one]); omega) | decide | (intros; simp_all; done) | (intros; simp_all; omega)) ?_
                  refine hK140 _ _ ?_
                  clear hK140
                  -- region 18
                  refine AWPD.keep [0, 1, 2, 3, 11, 12, 13, 14, 15] rfl ?_
                  refine AWPD.region (tabOK.own [46]) rfl ?_
                  repeat refine And.intro (by first | (intro hg; first | exact absurd hg (by decide) | (have h9 : fieldE p = 0 := (by simp at hg; first | exact hg | exact hg.1 | exact hg.1.1); have h8 := fieldE_in h9; omega)) | exact fun h => h | exact fun _ => rfl | (intro h; rw [h]; rfl) | omega | (intros; (try dsimp only [Ty.T, Ty.size]); (try simp only [castL_self, Int.toNat_natCast, Int.toNat_zero, Int.toNat_one, true_and, List.length_append, List.length_set, List.length_drop, List.length_take, List.length_replicate, List.length_cons, List.length_nil, Nat.zero_add, Nat.mul_one]); omega) | decide | (intros; simp_all; done) | (intros; simp_all; omega)) ?_
                  refine ⟨n1 - 1, i + 1, [0], by omega, by omega, ⟨by decide, rfl⟩, ⟨⟨rfl, rfl, rfl⟩, trivial⟩, ?_⟩
                  repeat' first | exact True.intro | exact rfl | exact ⟨rfl, rfl⟩ | refine And.intro ?_ ?_
                · try dsimp only [Ty.T] at h5
                  try simp only [castL_self] at h5
                  try simp only [Int.toNat_natCast] at h5
                  try simp only [Int.toNat_zero] at h5
                  have hil : i = rest.length := by omega
                  have hda : docV p ((k : Int) + 1) s rest i = atV p ((k : Int) + 1) (s :: rest) := by rw [hil]; exact docV_all hp.1 hs
                  refine AWPD.exit ?_
                  refine hK136 _ _ ?_
                  clear hK136
                  -- region 21
                  refine AWPD.keep [0, 1, 2, 3, 11, 12, 13] rfl ?_
                  refine AWPD.region (tabOK.own [46]) rfl ?_
                  repeat refine And.intro (by first | (intro hg; first | exact absurd hg (by decide) | (have h9 : fieldE p = 0 := (by simp at hg; first | exact hg | exact hg.1 | exact hg.1.1); have h8 := fieldE_in h9; omega)) | exact fun h => h | exact fun _ => rfl | (intro h; rw [h]; rfl) | omega | (intros; (try dsimp only [Ty.T, Ty.size]); (try simp only [castL_self, Int.toNat_natCast, Int.toNat_zero, Int.toNat_one, true_and, List.length_append, List.length_set, List.length_drop, List.length_take, List.length_replicate, List.length_cons, List.length_nil, Nat.zero_add, Nat.mul_one]); omega) | decide | (intros; simp_all; done) | (intros; simp_all; omega)) ?_
                  refine hK133 _ _ ?_
                  clear hK133
                  -- region 13
                  refine AWPD.keep [0, 1, 2, 3, 11, 12] rfl ?_
                  refine AWPD.region (tabOK.own [46]) rfl ?_
                  repeat refine And.intro (by first | (intro hg; first | exact absurd hg (by decide) | (have h9 : fieldE p = 0 := (by simp at hg; first | exact hg | exact hg.1 | exact hg.1.1); have h8 := fieldE_in h9; omega)) | exact fun h => h | exact fun _ => rfl | (intro h; rw [h]; rfl) | omega | (intros; (try dsimp only [Ty.T, Ty.size]); (try simp only [castL_self, Int.toNat_natCast, Int.toNat_zero, Int.toNat_one, true_and, List.length_append, List.length_set, List.length_drop, List.length_take, List.length_replicate, List.length_cons, List.length_nil, Nat.zero_add, Nat.mul_one]); omega) | decide | (intros; simp_all; done) | (intros; simp_all; omega)) ?_
                  refine ⟨n0 - 1, k + 1, [1], by omega, by omega, ⟨by decide, rfl⟩, ⟨⟨rfl, rfl, (by rw [← dealT_step]; show dealT p (s :: rest) k ++ [((k : Int) + 1, docV p ((k : Int) + 1) s rest i)] = _; rw [hda])⟩, trivial⟩, ?_⟩
                  repeat' first | exact True.intro | exact rfl | exact ⟨rfl, rfl⟩ | refine And.intro ?_ ?_
              · try dsimp only [Ty.T] at h4
                try simp only [castL_self] at h4
                try simp only [Int.toNat_natCast] at h4
                try simp only [Int.toNat_zero] at h4
                have hkm : k = m.toNat := by omega
                refine AWPD.exit ?_
                refine hK129 _ _ ?_
                clear hK129
                refine AWPD.seq fun K142 hK142 => ?_
                -- region 22
                refine AWPD.keep [11] rfl ?_
                refine AWPD.region (tabOK.own [46]) rfl ?_
                refine hK142 _ _ ?_
                clear hK142
                refine AWPD.ret (And.intro (.inl rfl) ?_)
                -- result 13
                first
                  | exact ⟨fitN rfl (by first | (unfold dealL; rw [hE]; rfl) | (unfold dealL; rw [hE, if_neg h3])) (by decide), fitI rfl hE.symm⟩
                  | exact ⟨fitR rfl rfl (by unfold dealL; rw [if_pos hE, hkm]), fitI rfl hE.symm⟩
      · try dsimp only [Ty.T] at h2
        try simp only [castL_self] at h2
        try simp only [Int.toNat_natCast] at h2
        try simp only [Int.toNat_zero] at h2
        first | have hb : fieldE p = 0 → _ := fun hh => c2_f (gif_f h2 hh) | skip
        refine AWPD.skip ?_
        refine hK123 _ _ ?_
        clear hK123
        refine AWPD.seq fun K143 hK143 => ?_
        refine AWPD.seq fun K144 hK144 => ?_
        -- region 8
        refine AWPD.keep [0, 1, 2, 3, 10] rfl ?_
        refine AWPD.region (tabOK.own [46]) rfl ?_
        refine hK144 _ _ ?_
        clear hK144
        first | refine AWPD.condP rfl (fun h3 => ?_) (fun h3 => ?_) | refine AWPD.condN rfl (fun h3 => ?_) (fun h3 => ?_) | refine AWPD.condAP rfl (fun h3 => ?_) (fun h3 => ?_) | refine AWPD.condOP rfl (fun h3 => ?_) (fun h3 => ?_) | refine AWPD.condONN rfl (fun h3 => ?_) (fun h3 => ?_) | refine AWPD.condOPN rfl (fun h3 => ?_) (fun h3 => ?_) | refine AWPD.condA rfl (fun h3 => ?_) (fun h3 => ?_) | refine AWPD.condO rfl (fun h3 => ?_) (fun h3 => ?_) | refine AWPD.cond rfl (fun h3 => ?_) (fun h3 => ?_)
        · try dsimp only [Ty.T] at h3
          try simp only [castL_self] at h3
          try simp only [Int.toNat_natCast] at h3
          try simp only [Int.toNat_zero] at h3
          try have hE := deal_f (s := s) (rest := rest) (m := m) h3
          refine AWPD.seq fun K145 hK145 => ?_
          -- region 9
          refine AWPD.keep [10] rfl ?_
          refine AWPD.region (tabOK.own [46]) rfl ?_
          refine hK145 _ _ ?_
          clear hK145
          refine AWPD.ret (And.intro (.inl rfl) ?_)
          -- result 14
          first
            | exact ⟨fitN rfl (by first | (unfold dealL; rw [hE]; rfl) | (unfold dealL; rw [hE, if_neg h3])) (by decide), fitI rfl hE.symm⟩
            | exact ⟨fitR rfl rfl (by unfold dealL; rw [if_pos hE, hkm]), fitI rfl hE.symm⟩
        · try dsimp only [Ty.T] at h3
          try simp only [castL_self] at h3
          try simp only [Int.toNat_natCast] at h3
          try simp only [Int.toNat_zero] at h3
          try (exact absurd (by decide) h3; done)
          all_goals
            have hf : fieldE p = 0 := by omega
            have hp := fieldE_in hf
            have hs := hs hf
            have hl12 := hl12 hf
            have hb := hb hf
            rw [decide_eq_true_eq] at hb
            have hE := deal_0 hf hs hl12 hb
            have hrin := allE_in hb.1
            refine AWPD.skip ?_
            refine hK143 _ _ ?_
            clear hK143
            refine AWPD.seq fun K146 hK146 => ?_
            -- region 10
            refine AWPD.keep [0, 1, 2, 3] rfl ?_
            refine AWPD.region (tabOK.own [46]) rfl ?_
            refine hK146 _ _ ?_
            clear hK146
            refine AWPD.seq fun K147 hK147 => ?_
            refine AWPD.seq fun K148 hK148 => ?_
            -- region 11
            refine AWPD.keep [0, 1, 2, 3, 11] rfl ?_
            refine AWPD.region (tabOK.own [46]) rfl ?_
            refine hK148 _ _ ?_
            clear hK148
            refine AWPD.block ?_
            -- LOOP 0 live [0, 1, 2, 3, 11, 12] changed [11, 12]
            refine AWPD.nilRow 11 61 .two rfl (by decide) ?_
            refine AWPD.loopK (σ := Nat) [0, 1, 2, 3] (fun k base => (11, .ob 0) :: (12, .i ((k : Int) + 1)) :: base) (fun k => [.row 61 .two (dealT p (s :: rest) k)]) (fun n k => n + k = m.toNat) (m.toNat) 0 [0] rfl rfl (by omega) (by decide) ⟨⟨rfl, rfl, rfl⟩, trivial⟩ (by repeat' first | exact True.intro | exact rfl | exact ⟨rfl, rfl⟩ | refine And.intro ?_ ?_) fun n0 k hI0 => ?_
            have hn0 := hI0
            have hlen : (dealT p (s :: rest) k).length = k := by simp [dealT]
            refine AWPD.seq fun K149 hK149 => ?_
            refine AWPD.seq fun K150 hK150 => ?_
            -- region 12
            refine AWPD.keep [0, 1, 2, 3, 11, 12] rfl ?_
            refine AWPD.region (tabOK.own [46]) rfl ?_
            refine hK150 _ _ ?_
            clear hK150
            first | refine AWPD.condP rfl (fun h4 => ?_) (fun h4 => ?_) | refine AWPD.condN rfl (fun h4 => ?_) (fun h4 => ?_) | refine AWPD.condAP rfl (fun h4 => ?_) (fun h4 => ?_) | refine AWPD.condOP rfl (fun h4 => ?_) (fun h4 => ?_) | refine AWPD.condONN rfl (fun h4 => ?_) (fun h4 => ?_) | refine AWPD.condOPN rfl (fun h4 => ?_) (fun h4 => ?_) | refine AWPD.condA rfl (fun h4 => ?_) (fun h4 => ?_) | refine AWPD.condO rfl (fun h4 => ?_) (fun h4 => ?_) | refine AWPD.cond rfl (fun h4 => ?_) (fun h4 => ?_)
            · try dsimp only [Ty.T] at h4
              try simp only [castL_self] at h4
              try simp only [Int.toNat_natCast] at h4
              try simp only [Int.toNat_zero] at h4
              have hkm : k < m.toNat := by omega
              refine AWPD.skip ?_
              refine hK149 _ _ ?_
              clear hK149
              refine AWPD.seq fun K151 hK151 => ?_
              refine AWPD.block ?_
              refine AWPD.seq fun K152 hK152 => ?_
              -- region 14
              refine AWPD.keep [0, 1, 2, 3, 11, 12] rfl ?_
              refine AWPD.region (tabOK.own [46]) rfl ?_
              refine hK152 _ _ ?_
              clear hK152
              refine AWPD.seq fun K153 hK153 => ?_
              -- region 15
              refine AWPD.keep [0, 1, 2, 3, 11, 12, 13] rfl ?_
              refine AWPD.region (tabOK.own [46]) rfl ?_
              refine hK153 _ _ ?_
              clear hK153
              refine AWPD.seq fun K154 hK154 => ?_
              refine AWPD.seq fun K155 hK155 => ?_
              -- region 16
              refine AWPD.keep [0, 1, 2, 3, 11, 12, 13, 14] rfl ?_
              refine AWPD.region (tabOK.own [46]) rfl ?_
              refine hK155 _ _ ?_
              clear hK155
              refine AWPD.block ?_
              -- LOOP 1 live [0, 1, 2, 3, 11, 12, 13, 14, 15] changed [13, 14, 15]
              refine AWPD.loopK (σ := Nat) [0, 1, 2, 3, 12] (fun i base => (11, .ob 0) :: (13, .i (docV p ((k : Int) + 1) s rest i)) :: (14, .i (pwV p ((k : Int) + 1) i)) :: (15, .i (i : Int)) :: base) (fun i => [.row 61 .two (dealT p (s :: rest) k)]) (fun n i => n + i = rest.length) (rest.length) 0 [0] rfl rfl (by omega) (by decide) ⟨⟨rfl, rfl, rfl⟩, trivial⟩ (by repeat' first | exact True.intro | exact rfl | exact ⟨rfl, rfl⟩ | refine And.intro ?_ ?_) fun n1 i hI1 => ?_
              have hn1 := hI1
              have hdi := docV_in (x := (k : Int) + 1) (rest := rest) hp.1 hs i
              have hpi := pwV_in (x := (k : Int) + 1) hp.1 i
              refine AWPD.seq fun K156 hK156 => ?_
              refine AWPD.seq fun K157 hK157 => ?_
              -- region 17
              refine AWPD.keep [0, 1, 2, 3, 11, 12, 13, 14, 15] rfl ?_
              refine AWPD.region (tabOK.own [46]) rfl ?_
              refine hK157 _ _ ?_
              clear hK157
              first | refine AWPD.condP rfl (fun h5 => ?_) (fun h5 => ?_) | refine AWPD.condN rfl (fun h5 => ?_) (fun h5 => ?_) | refine AWPD.condAP rfl (fun h5 => ?_) (fun h5 => ?_) | refine AWPD.condOP rfl (fun h5 => ?_) (fun h5 => ?_) | refine AWPD.condONN rfl (fun h5 => ?_) (fun h5 => ?_) | refine AWPD.condOPN rfl (fun h5 => ?_) (fun h5 => ?_) | refine AWPD.condA rfl (fun h5 => ?_) (fun h5 => ?_) | refine AWPD.condO rfl (fun h5 => ?_) (fun h5 => ?_) | refine AWPD.cond rfl (fun h5 => ?_) (fun h5 => ?_)
              · try dsimp only [Ty.T] at h5
                try simp only [castL_self] at h5
                try simp only [Int.toNat_natCast] at h5
                try simp only [Int.toNat_zero] at h5
                have hil : i < rest.length := by omega
                have hri := hrin _ (getD_mem hil 0)
                have hpn := pwV_in (x := (k : Int) + 1) hp.1 (i + 1)
                have hm1 := mul_b (a := pwV p ((k : Int) + 1) i) (b := (k : Int) + 1) (by omega) (by omega)
                have hm2 := mul_b (a := rest.getD i 0) (b := pwV p ((k : Int) + 1) (i + 1)) (by omega) (by omega)
                have hm0 : 0 ≤ rest.getD i 0 * pwV p ((k : Int) + 1) (i + 1) := Int.mul_nonneg (by omega) (by omega)
                have hm9 : 0 ≤ pwV p ((k : Int) + 1) i * ((k : Int) + 1) := Int.mul_nonneg (by omega) (by omega)
                have hpe : pwV p ((k : Int) + 1) i * ((k : Int) + 1) % p = pwV p ((k : Int) + 1) (i + 1) := rfl
                refine AWPD.skip ?_
                refine hK156 _ _ ?_
                clear hK156
                refine AWPD.seq fun K158 hK158 => ?_
                refine AWPD.block ?_
                refine AWPD.seq fun K159 hK159 => ?_
                -- region 19
                refine AWPD.keep [0, 1, 2, 3, 11, 12, 13, 14, 15] rfl ?_
                refine AWPD.region (tabOK.own [46]) rfl ?_
                repeat refine And.intro (by first | (intro hg; first | exact absurd hg (by decide) | (have h9 : fieldE p = 0 := (by simp at hg; first | exact hg | exact hg.1 | exact hg.1.1); have h8 := fieldE_in h9; omega)) | exact fun h => h | exact fun _ => rfl | (intro h; rw [h]; rfl) | omega | (intros; (try dsimp only [Ty.T, Ty.size]); (try simp only [castL_self, Int.toNat_natCast, Int.toNat_zero, Int.toNat_one, true_and, List.length_append, List.length_set, List.length_drop, List.length_take, List.length_replicate, List.length_cons, List.length_nil, Nat.zero_add, Nat.mul_one]); omega) | decide | (intros; simp_all; done) | (intros; simp_all; omega)) ?_
                refine hK159 _ _ ?_
                clear hK159
                -- region 20
                rw [hpe]
                refine AWPD.keep [0, 1, 2, 3, 11, 12, 13, 14, 15] rfl ?_
                refine AWPD.region (tabOK.own [46]) rfl ?_
                repeat refine And.intro (by first | (intro hg; first | exact absurd hg (by decide) | (have h9 : fieldE p = 0 := (by simp at hg; first | exact hg | exact hg.1 | exact hg.1.1); have h8 := fieldE_in h9; omega)) | exact fun h => h | exact fun _ => rfl | (intro h; rw [h]; rfl) | omega | (intros; (try dsimp only [Ty.T, Ty.size]); (try simp only [castL_self, Int.toNat_natCast, Int.toNat_zero, Int.toNat_one, true_and, List.length_append, List.length_set, List.length_drop, List.length_take, List.length_replicate, List.length_cons, List.length_nil, Nat.zero_add, Nat.mul_one]); omega) | decide | (intros; simp_all; done) | (intros; simp_all; omega)) ?_
                refine hK158 _ _ ?_
                clear hK158
                -- region 18
                refine AWPD.keep [0, 1, 2, 3, 11, 12, 13, 14, 15] rfl ?_
                refine AWPD.region (tabOK.own [46]) rfl ?_
                repeat refine And.intro (by first | (intro hg; first | exact absurd hg (by decide) | (have h9 : fieldE p = 0 := (by simp at hg; first | exact hg | exact hg.1 | exact hg.1.1); have h8 := fieldE_in h9; omega)) | exact fun h => h | exact fun _ => rfl | (intro h; rw [h]; rfl) | omega | (intros; (try dsimp only [Ty.T, Ty.size]); (try simp only [castL_self, Int.toNat_natCast, Int.toNat_zero, Int.toNat_one, true_and, List.length_append, List.length_set, List.length_drop, List.length_take, List.length_replicate, List.length_cons, List.length_nil, Nat.zero_add, Nat.mul_one]); omega) | decide | (intros; simp_all; done) | (intros; simp_all; omega)) ?_
                refine ⟨n1 - 1, i + 1, [0], by omega, by omega, ⟨by decide, rfl⟩, ⟨⟨rfl, rfl, rfl⟩, trivial⟩, ?_⟩
                repeat' first | exact True.intro | exact rfl | exact ⟨rfl, rfl⟩ | refine And.intro ?_ ?_
              · try dsimp only [Ty.T] at h5
                try simp only [castL_self] at h5
                try simp only [Int.toNat_natCast] at h5
                try simp only [Int.toNat_zero] at h5
                have hil : i = rest.length := by omega
                have hda : docV p ((k : Int) + 1) s rest i = atV p ((k : Int) + 1) (s :: rest) := by rw [hil]; exact docV_all hp.1 hs
                refine AWPD.exit ?_
                refine hK154 _ _ ?_
                clear hK154
                -- region 21
                refine AWPD.keep [0, 1, 2, 3, 11, 12, 13] rfl ?_
                refine AWPD.region (tabOK.own [46]) rfl ?_
                repeat refine And.intro (by first | (intro hg; first | exact absurd hg (by decide) | (have h9 : fieldE p = 0 := (by simp at hg; first | exact hg | exact hg.1 | exact hg.1.1); have h8 := fieldE_in h9; omega)) | exact fun h => h | exact fun _ => rfl | (intro h; rw [h]; rfl) | omega | (intros; (try dsimp only [Ty.T, Ty.size]); (try simp only [castL_self, Int.toNat_natCast, Int.toNat_zero, Int.toNat_one, true_and, List.length_append, List.length_set, List.length_drop, List.length_take, List.length_replicate, List.length_cons, List.length_nil, Nat.zero_add, Nat.mul_one]); omega) | decide | (intros; simp_all; done) | (intros; simp_all; omega)) ?_
                refine hK151 _ _ ?_
                clear hK151
                -- region 13
                refine AWPD.keep [0, 1, 2, 3, 11, 12] rfl ?_
                refine AWPD.region (tabOK.own [46]) rfl ?_
                repeat refine And.intro (by first | (intro hg; first | exact absurd hg (by decide) | (have h9 : fieldE p = 0 := (by simp at hg; first | exact hg | exact hg.1 | exact hg.1.1); have h8 := fieldE_in h9; omega)) | exact fun h => h | exact fun _ => rfl | (intro h; rw [h]; rfl) | omega | (intros; (try dsimp only [Ty.T, Ty.size]); (try simp only [castL_self, Int.toNat_natCast, Int.toNat_zero, Int.toNat_one, true_and, List.length_append, List.length_set, List.length_drop, List.length_take, List.length_replicate, List.length_cons, List.length_nil, Nat.zero_add, Nat.mul_one]); omega) | decide | (intros; simp_all; done) | (intros; simp_all; omega)) ?_
                refine ⟨n0 - 1, k + 1, [1], by omega, by omega, ⟨by decide, rfl⟩, ⟨⟨rfl, rfl, (by rw [← dealT_step]; show dealT p (s :: rest) k ++ [((k : Int) + 1, docV p ((k : Int) + 1) s rest i)] = _; rw [hda])⟩, trivial⟩, ?_⟩
                repeat' first | exact True.intro | exact rfl | exact ⟨rfl, rfl⟩ | refine And.intro ?_ ?_
            · try dsimp only [Ty.T] at h4
              try simp only [castL_self] at h4
              try simp only [Int.toNat_natCast] at h4
              try simp only [Int.toNat_zero] at h4
              have hkm : k = m.toNat := by omega
              refine AWPD.exit ?_
              refine hK147 _ _ ?_
              clear hK147
              refine AWPD.seq fun K160 hK160 => ?_
              -- region 22
              refine AWPD.keep [11] rfl ?_
              refine AWPD.region (tabOK.own [46]) rfl ?_
              refine hK160 _ _ ?_
              clear hK160
              refine AWPD.ret (And.intro (.inl rfl) ?_)
              -- result 15
              first
                | exact ⟨fitN rfl (by first | (unfold dealL; rw [hE]; rfl) | (unfold dealL; rw [hE, if_neg h3])) (by decide), fitI rfl hE.symm⟩
                | exact ⟨fitR rfl rfl (by unfold dealL; rw [if_pos hE, hkm]), fitI rfl hE.symm⟩
theorem rleft_fn (p : Int) (l : List Sh) (need : Int) : LiftsD Tryd.prog 24 [.i p, .sl .two l, .i need] (.tup [.sl .int (leftV p l need), .i (leftE p l need)]) := by
  have hr : (List.replicate p.toNat (0 : Int)).length = p.toNat := List.length_replicate
  refine LiftsD.of_body 88 [.tmp 6, .tmp 7] Tryd.func24 rfl Tryd.ntmps24 (by kernel_rfl) rfl rfl fun w0 X0 => ?_
  refine AWPD.seq fun K1 hK1 => ?_
  -- region 0
  refine AWPD.keep [0, 1, 2] rfl ?_
  refine AWPD.region (tabOK.own [84]) rfl ?_
  refine hK1 _ _ ?_
  clear hK1
  refine AWPD.seq fun K2 hK2 => ?_
  -- region 1
  refine AWPD.keep [0, 1, 2] rfl ?_
  refine AWPD.region (tabOK.own [84]) rfl ?_
  refine Exists.intro _ (Exists.intro _ (And.intro (StepD.call (rshares_fn _ _) rfl rfl rfl) (And.intro rfl (And.intro trivial ?_))))
  refine hK2 _ _ ?_
  clear hK2
  refine AWPD.seq fun K3 hK3 => ?_
  refine AWPD.seq fun K4 hK4 => ?_
  -- region 2
  refine AWPD.keep [0, 1, 2, 8] rfl ?_
  refine AWPD.region (tabOK.own [84]) rfl ?_
  repeat refine And.intro (by first | exact fun h => h | exact fun _ => rfl | (intro h; rw [h]; rfl) | omega | (intros; (try dsimp only [Ty.T, Ty.size]); (try simp only [castL_self, Int.toNat_natCast, Int.toNat_zero, Int.toNat_one, true_and, List.length_append, List.length_set, List.length_drop, List.length_take, List.length_replicate, List.length_cons, List.length_nil, Nat.zero_add, Nat.mul_one]); omega) | decide | (intros; simp_all; done) | (intros; simp_all; omega)) ?_
  refine Exists.intro _ (Exists.intro _ (And.intro (fun hg => StepD.call (in4_fn _ _ _) rfl rfl rfl) (And.intro (fun hf => rfl) (And.intro rfl (And.intro trivial ?_)))))
  repeat refine And.intro (by first | exact fun h => h | exact fun _ => rfl | (intro h; rw [h]; rfl) | omega | (intros; (try dsimp only [Ty.T, Ty.size]); (try simp only [castL_self, Int.toNat_natCast, Int.toNat_zero, Int.toNat_one, true_and, List.length_append, List.length_set, List.length_drop, List.length_take, List.length_replicate, List.length_cons, List.length_nil, Nat.zero_add, Nat.mul_one]); omega) | decide | (intros; simp_all; done) | (intros; simp_all; omega)) ?_
  refine hK4 _ _ ?_
  clear hK4
  first | refine AWPD.cond rfl (fun h0 => ?_) (fun h0 => ?_)
  · try dsimp only [Ty.T] at h0
    try simp only [castL_self] at h0
    try simp only [Int.toNat_natCast] at h0
    try simp only [Int.toNat_zero] at h0
    have hc0 := gif_t h0
    have hs := hc0.1
    have hnn : ¬(1 ≤ need ∧ need ≤ 12) := fun hh => by have := hc0.2; rw [decide_eq_true hh] at this; cases this
    have hE : leftE p l need = 1 := by unfold leftE; rw [if_neg (by omega), if_pos hnn]
    -- region 3
    refine AWPD.keep [0, 1, 2] rfl ?_
    refine AWPD.region (tabOK.own [84]) rfl ?_
    refine hK3 _ _ ?_
    clear hK3
    refine AWPD.seq fun K5 hK5 => ?_
    refine AWPD.seq fun K6 hK6 => ?_
    -- region 4
    refine AWPD.keep [0, 1, 2, 8] rfl ?_
    refine AWPD.region (tabOK.own [84]) rfl ?_
    refine hK6 _ _ ?_
    clear hK6
    first | refine AWPD.condP rfl (fun h1 => ?_) (fun h1 => ?_) | refine AWPD.condN rfl (fun h1 => ?_) (fun h1 => ?_) | refine AWPD.condAP rfl (fun h1 => ?_) (fun h1 => ?_) | refine AWPD.condOP rfl (fun h1 => ?_) (fun h1 => ?_) | refine AWPD.condONN rfl (fun h1 => ?_) (fun h1 => ?_) | refine AWPD.condOPN rfl (fun h1 => ?_) (fun h1 => ?_) | refine AWPD.condA rfl (fun h1 => ?_) (fun h1 => ?_) | refine AWPD.condO rfl (fun h1 => ?_) (fun h1 => ?_) | refine AWPD.cond rfl (fun h1 => ?_) (fun h1 => ?_)
    · try dsimp only [Ty.T] at h1
      try simp only [castL_self] at h1
      try simp only [Int.toNat_natCast] at h1
      try simp only [Int.toNat_zero] at h1
      try have hE : leftE p l need = sharesE p l := by unfold leftE; rw [if_pos h1]
      refine AWPD.seq fun K7 hK7 => ?_
      -- region 5
      refine AWPD.keep [8] rfl ?_
      refine AWPD.region (tabOK.own [84]) rfl ?_
      refine hK7 _ _ ?_
      clear hK7
      refine AWPD.ret (And.intro (.inl rfl) ?_)
      -- result 0
      first
        | exact ⟨fitN rfl (leftV_no (by rw [hE]; first | decide | exact h1)) (by decide), fitI rfl hE.symm⟩
        | exact ⟨fitR rfl rfl (by rw [lm.2, if_neg hns]), fitI rfl lm.1.symm⟩
        | exact ⟨fitR rfl rfl (by rw [lm.2, if_pos hsm, hjv]; rfl), fitI rfl lm.1.symm⟩
        | exact ⟨fitR rfl rfl (by rw [lf.2, ← hke, ← fillP_all, show i = p.toNat by omega]), fitI rfl lf.1.symm⟩
        | (have hle := powI_le gp2 (show k + 1 ≤ (need - 1 - l.length).toNat by omega); have h6 : 1000000000000 < powI p k * p := h6; have he : leftE p l need = 4 := (by unfold leftE; rw [if_neg (by omega), if_neg (fun h => h hn), if_pos ⟨h2, by rw [powI] at hle; omega⟩]); exact ⟨fitN rfl (leftV_no (by rw [he]; decide)) (by decide), fitI rfl he.symm⟩)
    · try dsimp only [Ty.T] at h1
      try simp only [castL_self] at h1
      try simp only [Int.toNat_natCast] at h1
      try simp only [Int.toNat_zero] at h1
      try (exact absurd (by decide) h1; done)
      all_goals
        have hs : sharesE p l = 0 := by omega
        have hn := hn0 hs
        have g := shares_good hs
        have gp2 := g.p2
        have gp3 := g.p31
        have gf := g.few
        have hfe : fieldE p = 0 := by
          unfold sharesE at hs
          split at hs
          · rename_i h; exact absurd hs h
          · omega
        refine AWPD.skip ?_
        refine hK5 _ _ ?_
        clear hK5
        refine AWPD.seq fun K8 hK8 => ?_
        -- region 6
        refine AWPD.keep [0, 1, 2] rfl ?_
        refine AWPD.region (tabOK.own [84]) rfl ?_
        repeat refine And.intro (by first | exact fun h => h | exact fun _ => rfl | (intro h; rw [h]; rfl) | omega | (intros; (try dsimp only [Ty.T, Ty.size]); (try simp only [castL_self, Int.toNat_natCast, Int.toNat_zero, Int.toNat_one, true_and, List.length_append, List.length_set, List.length_drop, List.length_take, List.length_replicate, List.length_cons, List.length_nil, Nat.zero_add, Nat.mul_one]); omega) | decide | (intros; simp_all; done) | (intros; simp_all; omega)) ?_
        refine hK8 _ _ ?_
        clear hK8
        refine AWPD.seq fun K9 hK9 => ?_
        refine AWPD.seq fun K10 hK10 => ?_
        -- region 7
        refine AWPD.keep [0, 1, 2, 9] rfl ?_
        refine AWPD.region (tabOK.own [84]) rfl ?_
        refine hK10 _ _ ?_
        clear hK10
        first | refine AWPD.condP rfl (fun h2 => ?_) (fun h2 => ?_) | refine AWPD.condN rfl (fun h2 => ?_) (fun h2 => ?_) | refine AWPD.condAP rfl (fun h2 => ?_) (fun h2 => ?_) | refine AWPD.condOP rfl (fun h2 => ?_) (fun h2 => ?_) | refine AWPD.condONN rfl (fun h2 => ?_) (fun h2 => ?_) | refine AWPD.condOPN rfl (fun h2 => ?_) (fun h2 => ?_) | refine AWPD.condA rfl (fun h2 => ?_) (fun h2 => ?_) | refine AWPD.condO rfl (fun h2 => ?_) (fun h2 => ?_) | refine AWPD.cond rfl (fun h2 => ?_) (fun h2 => ?_)
        · try dsimp only [Ty.T] at h2
          try simp only [castL_self] at h2
          try simp only [Int.toNat_natCast] at h2
          try simp only [Int.toNat_zero] at h2
          have hnl : need.toNat ≤ l.length := by omega
          have htg := take_good g hfe (n := need.toNat) (by omega) hnl
          have gt := shares_good htg
          have hjv := nev_join htg
          have hj0 := nevV_in gp2 (l.take need.toNat) 0
          have lm := left_many hs hn (by omega)
          have lt : (l.take need.toNat).length = need.toNat := by rw [List.length_take]; omega
          refine AWPD.seq fun K11 hK11 => ?_
          refine AWPD.seq fun K12 hK12 => ?_
          -- region 8
          refine AWPD.keep [0, 1, 2, 9] rfl ?_
          refine AWPD.region (tabOK.own [84]) rfl ?_
          refine hK12 _ _ ?_
          clear hK12
          refine AWPD.block ?_
          -- LOOP 0 live [0, 1, 2, 9, 10] changed [10]
          refine AWPD.loopK (σ := Nat) [0, 1, 2] (fun i base => (9, .ob 0) :: (10, .i (i : Int)) :: base) (fun i => [.row 3 .int (List.replicate p.toNat 0)]) (fun n i => n + i = l.length ∧ need.toNat ≤ i ∧ ∀ a, need.toNat ≤ a → a < i → nevV p (l.take need.toNat) (l.getD a (0, 0)).1 = (l.getD a (0, 0)).2) (l.length - need.toNat) need.toNat [0] rfl rfl (⟨by omega, by omega, fun a h1 h2 => by omega⟩) (by decide) ⟨⟨rfl, rfl, rfl⟩, trivial⟩ (by repeat' first | (show need = ((need.toNat : Nat) : Int); omega) | exact True.intro | exact rfl | exact ⟨rfl, rfl⟩ | refine And.intro ?_ ?_) fun n0 i hI0 => ?_
          obtain ⟨hn9, hi9, hv0⟩ := hI0
          refine AWPD.seq fun K13 hK13 => ?_
          refine AWPD.seq fun K14 hK14 => ?_
          -- region 9
          refine AWPD.keep [0, 1, 2, 9, 10] rfl ?_
          refine AWPD.region (tabOK.own [84]) rfl ?_
          refine hK14 _ _ ?_
          clear hK14
          first | refine AWPD.condP rfl (fun h3 => ?_) (fun h3 => ?_) | refine AWPD.condN rfl (fun h3 => ?_) (fun h3 => ?_) | refine AWPD.condAP rfl (fun h3 => ?_) (fun h3 => ?_) | refine AWPD.condOP rfl (fun h3 => ?_) (fun h3 => ?_) | refine AWPD.condONN rfl (fun h3 => ?_) (fun h3 => ?_) | refine AWPD.condOPN rfl (fun h3 => ?_) (fun h3 => ?_) | refine AWPD.condA rfl (fun h3 => ?_) (fun h3 => ?_) | refine AWPD.condO rfl (fun h3 => ?_) (fun h3 => ?_) | refine AWPD.cond rfl (fun h3 => ?_) (fun h3 => ?_)
          · try dsimp only [Ty.T] at h3
            try simp only [castL_self] at h3
            try simp only [Int.toNat_natCast] at h3
            try simp only [Int.toNat_zero] at h3
            have hil : i < l.length := by omega
            have hai := g.at_ i hil
            have hoth := nev_other g hfe (n := need.toNat) (j := i - need.toNat) (by omega) hnl (by omega)
            rw [show need.toNat + (i - need.toNat) = i by omega] at hoth
            refine AWPD.skip ?_
            refine hK13 _ _ ?_
            clear hK13
            refine AWPD.seq fun K15 hK15 => ?_
            refine AWPD.block ?_
            refine AWPD.seq fun K16 hK16 => ?_
            -- region 11
            refine AWPD.keep [0, 1, 2, 9, 10] rfl ?_
            refine AWPD.draw (tabOK.own [84]) [] rfl (by kernel_rfl) ?_
            repeat refine And.intro (by first | exact fun h => h | exact fun _ => rfl | (intro h; rw [h]; rfl) | omega | (intros; (try dsimp only [Ty.T, Ty.size]); (try simp only [castL_self, Int.toNat_natCast, Int.toNat_zero, Int.toNat_one, true_and, List.length_append, List.length_set, List.length_drop, List.length_take, List.length_replicate, List.length_cons, List.length_nil, Nat.zero_add, Nat.mul_one]); omega) | decide | (intros; simp_all; done) | (intros; simp_all; omega)) ?_
            refine Exists.intro _ (Exists.intro _ (And.intro (StepD.call (at4_fn p (l.take need.toNat) (l.getD i (0, 0)).1 gt (by omega)) rfl rfl rfl) (And.intro rfl (And.intro rfl ?_))))
            repeat refine And.intro (by first | exact fun h => h | exact fun _ => rfl | (intro h; rw [h]; rfl) | omega | (intros; (try dsimp only [Ty.T, Ty.size]); (try simp only [castL_self, Int.toNat_natCast, Int.toNat_zero, Int.toNat_one, true_and, List.length_append, List.length_set, List.length_drop, List.length_take, List.length_replicate, List.length_cons, List.length_nil, Nat.zero_add, Nat.mul_one]); omega) | decide | (intros; simp_all; done) | (intros; simp_all; omega)) ?_
            refine hK16 _ _ ?_
            clear hK16
            first | refine AWPD.condP rfl (fun h4 => ?_) (fun h4 => ?_) | refine AWPD.condN rfl (fun h4 => ?_) (fun h4 => ?_) | refine AWPD.condAP rfl (fun h4 => ?_) (fun h4 => ?_) | refine AWPD.condOP rfl (fun h4 => ?_) (fun h4 => ?_) | refine AWPD.condONN rfl (fun h4 => ?_) (fun h4 => ?_) | refine AWPD.condOPN rfl (fun h4 => ?_) (fun h4 => ?_) | refine AWPD.condA rfl (fun h4 => ?_) (fun h4 => ?_) | refine AWPD.condO rfl (fun h4 => ?_) (fun h4 => ?_) | refine AWPD.cond rfl (fun h4 => ?_) (fun h4 => ?_)
            · try dsimp only [Ty.T] at h4
              try simp only [castL_self] at h4
              try simp only [Int.toNat_natCast] at h4
              try simp only [Int.toNat_zero] at h4
              have h4 : ¬nevV p (l.take need.toNat) (l.getD i (0, 0)).1 = (l.getD i (0, 0)).2 := h4
              have hns : ¬sameS p l need.toNat := fun hh => h4 (hoth.1 (by have := hh (i - need.toNat) (by omega); rw [show need.toNat + (i - need.toNat) = i by omega] at this; exact this))
              refine AWPD.seq fun K17 hK17 => ?_
              -- region 12
              refine AWPD.keep [9] rfl ?_
              refine AWPD.region (tabOK.own [84]) rfl ?_
              refine hK17 _ _ ?_
              clear hK17
              refine AWPD.ret (And.intro (.inl rfl) ?_)
              -- result 1
              first
                | exact ⟨fitN rfl (leftV_no (by rw [hE]; first | decide | exact h1)) (by decide), fitI rfl hE.symm⟩
                | exact ⟨fitR rfl rfl (by rw [lm.2, if_neg hns]), fitI rfl lm.1.symm⟩
                | exact ⟨fitR rfl rfl (by rw [lm.2, if_pos hsm, hjv]; rfl), fitI rfl lm.1.symm⟩
                | exact ⟨fitR rfl rfl (by rw [lf.2, ← hke, ← fillP_all, show i = p.toNat by omega]), fitI rfl lf.1.symm⟩
                | (have hle := powI_le gp2 (show k + 1 ≤ (need - 1 - l.length).toNat by omega); have h6 : 1000000000000 < powI p k * p := h6; have he : leftE p l need = 4 := (by unfold leftE; rw [if_neg (by omega), if_neg (fun h => h hn), if_pos ⟨h2, by rw [powI] at hle; omega⟩]); exact ⟨fitN rfl (leftV_no (by rw [he]; decide)) (by decide), fitI rfl he.symm⟩)
            · try dsimp only [Ty.T] at h4
              try simp only [castL_self] at h4
              try simp only [Int.toNat_natCast] at h4
              try simp only [Int.toNat_zero] at h4
              have h4 : nevV p (l.take need.toNat) (l.getD i (0, 0)).1 = (l.getD i (0, 0)).2 := Decidable.not_not.1 h4
              refine AWPD.skip ?_
              refine hK15 _ _ ?_
              clear hK15
              -- region 10
              refine AWPD.keep [0, 1, 2, 9, 10] rfl ?_
              refine AWPD.region (tabOK.own [84]) rfl ?_
              repeat refine And.intro (by first | exact fun h => h | exact fun _ => rfl | (intro h; rw [h]; rfl) | omega | (intros; (try dsimp only [Ty.T, Ty.size]); (try simp only [castL_self, Int.toNat_natCast, Int.toNat_zero, Int.toNat_one, true_and, List.length_append, List.length_set, List.length_drop, List.length_take, List.length_replicate, List.length_cons, List.length_nil, Nat.zero_add, Nat.mul_one]); omega) | decide | (intros; simp_all; done) | (intros; simp_all; omega)) ?_
              refine ⟨n0 - 1, i + 1, [0], by omega, ⟨by omega, by omega, fun a h1 h2 => by
                  rcases Nat.lt_or_ge a i with h | h
                  · exact hv0 a h1 h
                  · rw [show a = i by omega]; exact h4⟩, ⟨by decide, rfl⟩, ⟨⟨rfl, rfl, rfl⟩, trivial⟩, ?_⟩
              repeat' first | exact True.intro | exact rfl | exact ⟨rfl, rfl⟩ | refine And.intro ?_ ?_
          · try dsimp only [Ty.T] at h3
            try simp only [castL_self] at h3
            try simp only [Int.toNat_natCast] at h3
            try simp only [Int.toNat_zero] at h3
            have hil : i = l.length := by omega
            have hsm : sameS p l need.toNat := fun a ha => (nev_other g hfe (n := need.toNat) (j := a) (by omega) hnl ha).2 (hv0 (need.toNat + a) (by omega) (by omega))
            refine AWPD.exit ?_
            refine hK11 _ _ ?_
            clear hK11
            refine AWPD.seq fun K18 hK18 => ?_
            -- region 13
            refine AWPD.keep [0, 1, 2, 9] rfl ?_
            refine AWPD.region (tabOK.own [84]) rfl ?_
            repeat refine And.intro (by first | exact fun h => h | exact fun _ => rfl | (intro h; rw [h]; rfl) | omega | (intros; (try dsimp only [Ty.T, Ty.size]); (try simp only [castL_self, Int.toNat_natCast, Int.toNat_zero, Int.toNat_one, true_and, List.length_append, List.length_set, List.length_drop, List.length_take, List.length_replicate, List.length_cons, List.length_nil, Nat.zero_add, Nat.mul_one]); omega) | decide | (intros; simp_all; done) | (intros; simp_all; omega)) ?_
            refine Exists.intro _ (Exists.intro _ (And.intro (StepD.call (at4_fn p (l.take need.toNat) 0 gt (by omega)) rfl rfl rfl) (And.intro rfl (And.intro trivial ?_))))
            repeat refine And.intro (by first | exact fun h => h | exact fun _ => rfl | (intro h; rw [h]; rfl) | omega | (intros; (try dsimp only [Ty.T, Ty.size]); (try simp only [castL_self, Int.toNat_natCast, Int.toNat_zero, Int.toNat_one, true_and, List.length_append, List.length_set, List.length_drop, List.length_take, List.length_replicate, List.length_cons, List.length_nil, Nat.zero_add, Nat.mul_one]); omega) | decide | (intros; simp_all; done) | (intros; simp_all; omega)) ?_
            refine hK18 _ _ ?_
            clear hK18
            refine AWPD.seq fun K19 hK19 => ?_
            -- region 14
            refine AWPD.keep [9] rfl ?_
            refine AWPD.region (tabOK.own [84]) rfl ?_
            refine hK19 _ _ ?_
            clear hK19
            refine AWPD.ret (And.intro (.inl rfl) ?_)
            -- result 2
            first
              | exact ⟨fitN rfl (leftV_no (by rw [hE]; first | decide | exact h1)) (by decide), fitI rfl hE.symm⟩
              | exact ⟨fitR rfl rfl (by rw [lm.2, if_neg hns]), fitI rfl lm.1.symm⟩
              | exact ⟨fitR rfl rfl (by rw [lm.2, if_pos hsm, hjv]; rfl), fitI rfl lm.1.symm⟩
              | exact ⟨fitR rfl rfl (by rw [lf.2, ← hke, ← fillP_all, show i = p.toNat by omega]), fitI rfl lf.1.symm⟩
              | (have hle := powI_le gp2 (show k + 1 ≤ (need - 1 - l.length).toNat by omega); have h6 : 1000000000000 < powI p k * p := h6; have he : leftE p l need = 4 := (by unfold leftE; rw [if_neg (by omega), if_neg (fun h => h hn), if_pos ⟨h2, by rw [powI] at hle; omega⟩]); exact ⟨fitN rfl (leftV_no (by rw [he]; decide)) (by decide), fitI rfl he.symm⟩)
        · try dsimp only [Ty.T] at h2
          try simp only [castL_self] at h2
          try simp only [Int.toNat_natCast] at h2
          try simp only [Int.toNat_zero] at h2
          have h2 : (l.length : Int) < need := by omega
          refine AWPD.skip ?_
          refine hK9 _ _ ?_
          clear hK9
          refine AWPD.seq fun K20 hK20 => ?_
          -- region 15
          refine AWPD.keep [0, 1, 2, 9] rfl ?_
          refine AWPD.region (tabOK.own [84]) rfl ?_
          refine hK20 _ _ ?_
          clear hK20
          refine AWPD.seq fun K21 hK21 => ?_
          refine AWPD.seq fun K22 hK22 => ?_
          -- region 16
          refine AWPD.keep [0, 1, 2, 9, 11] rfl ?_
          refine AWPD.region (tabOK.own [84]) rfl ?_
          repeat refine And.intro (by first | exact fun h => h | exact fun _ => rfl | (intro h; rw [h]; rfl) | omega | (intros; (try dsimp only [Ty.T, Ty.size]); (try simp only [castL_self, Int.toNat_natCast, Int.toNat_zero, Int.toNat_one, true_and, List.length_append, List.length_set, List.length_drop, List.length_take, List.length_replicate, List.length_cons, List.length_nil, Nat.zero_add, Nat.mul_one]); omega) | decide | (intros; simp_all; done) | (intros; simp_all; omega)) ?_
          refine hK22 _ _ ?_
          clear hK22
          refine AWPD.block ?_
          -- LOOP 1 live [0, 2, 9, 11, 12] changed [11, 12]
          refine AWPD.loopK (σ := Nat) [0, 2] (fun k base => (9, .ob 0) :: (11, .i (powI p k)) :: (12, .i ((l.length : Int) + 1 + (k : Int))) :: base) (fun k => [.row 3 .int (List.replicate p.toNat 0)]) (fun n k => n + k = (need - 1 - l.length).toNat ∧ powI p k ≤ 1000000000000) ((need - 1 - l.length).toNat) 0 [0] rfl rfl (⟨by omega, (by show (1 : Int) ≤ 1000000000000; decide)⟩) (by decide) ⟨⟨rfl, rfl, rfl⟩, trivial⟩ (by repeat' first | (show (1 : Int) = powI p 0; rfl) | (show (l.length : Int) + 1 = (l.length : Int) + 1 + ((0 : Nat) : Int); omega) | exact True.intro | exact rfl | exact ⟨rfl, rfl⟩ | refine And.intro ?_ ?_) fun n1 k hI1 => ?_
          obtain ⟨hn1, hv1⟩ := hI1
          refine AWPD.seq fun K23 hK23 => ?_
          refine AWPD.seq fun K24 hK24 => ?_
          -- region 17
          refine AWPD.keep [0, 2, 9, 11, 12] rfl ?_
          refine AWPD.region (tabOK.own [84]) rfl ?_
          refine hK24 _ _ ?_
          clear hK24
          first | refine AWPD.condP rfl (fun h5 => ?_) (fun h5 => ?_) | refine AWPD.condN rfl (fun h5 => ?_) (fun h5 => ?_) | refine AWPD.condAP rfl (fun h5 => ?_) (fun h5 => ?_) | refine AWPD.condOP rfl (fun h5 => ?_) (fun h5 => ?_) | refine AWPD.condONN rfl (fun h5 => ?_) (fun h5 => ?_) | refine AWPD.condOPN rfl (fun h5 => ?_) (fun h5 => ?_) | refine AWPD.condA rfl (fun h5 => ?_) (fun h5 => ?_) | refine AWPD.condO rfl (fun h5 => ?_) (fun h5 => ?_) | refine AWPD.cond rfl (fun h5 => ?_) (fun h5 => ?_)
          · try dsimp only [Ty.T] at h5
            try simp only [castL_self] at h5
            try simp only [Int.toNat_natCast] at h5
            try simp only [Int.toNat_zero] at h5
            have hst := powI_step ⟨gp2, gp3⟩ hv1
            refine AWPD.skip ?_
            refine hK23 _ _ ?_
            clear hK23
            refine AWPD.seq fun K25 hK25 => ?_
            refine AWPD.block ?_
            refine AWPD.seq fun K26 hK26 => ?_
            -- region 19
            refine AWPD.keep [0, 2, 9, 11, 12] rfl ?_
            refine AWPD.region (tabOK.own [84]) rfl ?_
            repeat refine And.intro (by first | exact fun h => h | exact fun _ => rfl | (intro h; rw [h]; rfl) | omega | (intros; (try dsimp only [Ty.T, Ty.size]); (try simp only [castL_self, Int.toNat_natCast, Int.toNat_zero, Int.toNat_one, true_and, List.length_append, List.length_set, List.length_drop, List.length_take, List.length_replicate, List.length_cons, List.length_nil, Nat.zero_add, Nat.mul_one]); omega) | decide | (intros; simp_all; done) | (intros; simp_all; omega)) ?_
            refine hK26 _ _ ?_
            clear hK26
            refine AWPD.seq fun K27 hK27 => ?_
            -- region 20
            refine AWPD.keep [0, 2, 9, 11, 12] rfl ?_
            refine AWPD.region (tabOK.own [84]) rfl ?_
            refine hK27 _ _ ?_
            clear hK27
            first | refine AWPD.condP rfl (fun h6 => ?_) (fun h6 => ?_) | refine AWPD.condN rfl (fun h6 => ?_) (fun h6 => ?_) | refine AWPD.condAP rfl (fun h6 => ?_) (fun h6 => ?_) | refine AWPD.condOP rfl (fun h6 => ?_) (fun h6 => ?_) | refine AWPD.condONN rfl (fun h6 => ?_) (fun h6 => ?_) | refine AWPD.condOPN rfl (fun h6 => ?_) (fun h6 => ?_) | refine AWPD.condA rfl (fun h6 => ?_) (fun h6 => ?_) | refine AWPD.condO rfl (fun h6 => ?_) (fun h6 => ?_) | refine AWPD.cond rfl (fun h6 => ?_) (fun h6 => ?_)
            · try dsimp only [Ty.T] at h6
              try simp only [castL_self] at h6
              try simp only [Int.toNat_natCast] at h6
              try simp only [Int.toNat_zero] at h6
              refine AWPD.seq fun K28 hK28 => ?_
              -- region 21
              refine AWPD.keep [] rfl ?_
              refine AWPD.region (tabOK.own [84]) rfl ?_
              refine hK28 _ _ ?_
              clear hK28
              refine AWPD.ret (And.intro (.inl rfl) ?_)
              -- result 3
              first
                | exact ⟨fitN rfl (leftV_no (by rw [hE]; first | decide | exact h1)) (by decide), fitI rfl hE.symm⟩
                | exact ⟨fitR rfl rfl (by rw [lm.2, if_neg hns]), fitI rfl lm.1.symm⟩
                | exact ⟨fitR rfl rfl (by rw [lm.2, if_pos hsm, hjv]; rfl), fitI rfl lm.1.symm⟩
                | exact ⟨fitR rfl rfl (by rw [lf.2, ← hke, ← fillP_all, show i = p.toNat by omega]), fitI rfl lf.1.symm⟩
                | (have hle := powI_le gp2 (show k + 1 ≤ (need - 1 - l.length).toNat by omega); have h6 : 1000000000000 < powI p k * p := h6; have he : leftE p l need = 4 := (by unfold leftE; rw [if_neg (by omega), if_neg (fun h => h hn), if_pos ⟨h2, by rw [powI] at hle; omega⟩]); exact ⟨fitN rfl (leftV_no (by rw [he]; decide)) (by decide), fitI rfl he.symm⟩)
            · try dsimp only [Ty.T] at h6
              try simp only [castL_self] at h6
              try simp only [Int.toNat_natCast] at h6
              try simp only [Int.toNat_zero] at h6
              refine AWPD.skip ?_
              refine hK25 _ _ ?_
              clear hK25
              -- region 18
              refine AWPD.keep [0, 2, 9, 11, 12] rfl ?_
              refine AWPD.region (tabOK.own [84]) rfl ?_
              repeat refine And.intro (by first | exact fun h => h | exact fun _ => rfl | (intro h; rw [h]; rfl) | omega | (intros; (try dsimp only [Ty.T, Ty.size]); (try simp only [castL_self, Int.toNat_natCast, Int.toNat_zero, Int.toNat_one, true_and, List.length_append, List.length_set, List.length_drop, List.length_take, List.length_replicate, List.length_cons, List.length_nil, Nat.zero_add, Nat.mul_one]); omega) | decide | (intros; simp_all; done) | (intros; simp_all; omega)) ?_
              refine ⟨n1 - 1, k + 1, [0], by omega, ⟨by omega, (by have h : ¬1000000000000 < powI p k * p := h6; rw [powI]; omega)⟩, ⟨by decide, rfl⟩, ⟨⟨rfl, rfl, rfl⟩, trivial⟩, ?_⟩
              repeat' first | (show powI p k * p = powI p (k + 1); rfl) | (show (l.length : Int) + 1 + (k : Int) + 1 = (l.length : Int) + 1 + ((k + 1 : Nat) : Int); omega) | exact True.intro | exact rfl | exact ⟨rfl, rfl⟩ | refine And.intro ?_ ?_
          · try dsimp only [Ty.T] at h5
            try simp only [castL_self] at h5
            try simp only [Int.toNat_natCast] at h5
            try simp only [Int.toNat_zero] at h5
            refine AWPD.exit ?_
            refine hK21 _ _ ?_
            clear hK21
            refine AWPD.seq fun K29 hK29 => ?_
            refine AWPD.seq fun K30 hK30 => ?_
            -- region 22
            refine AWPD.keep [0, 9, 11] rfl ?_
            refine AWPD.region (tabOK.own [84]) rfl ?_
            refine hK30 _ _ ?_
            clear hK30
            refine AWPD.block ?_
            -- LOOP 2 live [0, 9, 11, 13] changed [13]
            have hke : k = (need - 1 - l.length).toNat := by omega
            have lf := left_few hs hn h2 (by rw [← hke]; exact hv1)
            refine AWPD.loopK (σ := Nat) [0, 11] (fun i base => (9, .ob 0) :: (13, .i (i : Int)) :: base) (fun i => [.row 3 .int (fillP p (powI p k) i)]) (fun n i => n + i = p.toNat) (p.toNat) 0 [0] rfl rfl (by omega) (by decide) ⟨⟨rfl, rfl, fillP_zero _ _⟩, trivial⟩ (by repeat' first | exact True.intro | exact rfl | exact ⟨rfl, rfl⟩ | refine And.intro ?_ ?_) fun n2 i hI2 => ?_
            have hn2 := hI2
            have hfl := fillP_len (p := p) (c := powI p k) (i := i) (by omega)
            refine AWPD.seq fun K31 hK31 => ?_
            refine AWPD.seq fun K32 hK32 => ?_
            -- region 23
            refine AWPD.keep [0, 9, 11, 13] rfl ?_
            refine AWPD.region (tabOK.own [84]) rfl ?_
            refine hK32 _ _ ?_
            clear hK32
            first | refine AWPD.condP rfl (fun h7 => ?_) (fun h7 => ?_) | refine AWPD.condN rfl (fun h7 => ?_) (fun h7 => ?_) | refine AWPD.condAP rfl (fun h7 => ?_) (fun h7 => ?_) | refine AWPD.condOP rfl (fun h7 => ?_) (fun h7 => ?_) | refine AWPD.condONN rfl (fun h7 => ?_) (fun h7 => ?_) | refine AWPD.condOPN rfl (fun h7 => ?_) (fun h7 => ?_) | refine AWPD.condA rfl (fun h7 => ?_) (fun h7 => ?_) | refine AWPD.condO rfl (fun h7 => ?_) (fun h7 => ?_) | refine AWPD.cond rfl (fun h7 => ?_) (fun h7 => ?_)
            · try dsimp only [Ty.T] at h7
              try simp only [castL_self] at h7
              try simp only [Int.toNat_natCast] at h7
              try simp only [Int.toNat_zero] at h7
              refine AWPD.skip ?_
              refine hK31 _ _ ?_
              clear hK31
              refine AWPD.seq fun K33 hK33 => ?_
              refine AWPD.block ?_
              -- region 25
              refine AWPD.keep [0, 9, 11, 13] rfl ?_
              refine AWPD.region (tabOK.own [84]) rfl ?_
              repeat refine And.intro (by first | exact fun h => h | exact fun _ => rfl | (intro h; rw [h]; rfl) | omega | (intros; (try dsimp only [Ty.T, Ty.size]); (try simp only [castL_self, Int.toNat_natCast, Int.toNat_zero, Int.toNat_one, true_and, List.length_append, List.length_set, List.length_drop, List.length_take, List.length_replicate, List.length_cons, List.length_nil, Nat.zero_add, Nat.mul_one]); omega) | decide | (intros; simp_all; done) | (intros; simp_all; omega)) ?_
              refine hK33 _ _ ?_
              clear hK33
              -- region 24
              refine AWPD.keep [0, 9, 11, 13] rfl ?_
              refine AWPD.region (tabOK.own [84]) rfl ?_
              repeat refine And.intro (by first | exact fun h => h | exact fun _ => rfl | (intro h; rw [h]; rfl) | omega | (intros; (try dsimp only [Ty.T, Ty.size]); (try simp only [castL_self, Int.toNat_natCast, Int.toNat_zero, Int.toNat_one, true_and, List.length_append, List.length_set, List.length_drop, List.length_take, List.length_replicate, List.length_cons, List.length_nil, Nat.zero_add, Nat.mul_one]); omega) | decide | (intros; simp_all; done) | (intros; simp_all; omega)) ?_
              refine ⟨n2 - 1, i + 1, [0], by omega, by omega, ⟨by decide, rfl⟩, ⟨⟨rfl, rfl, fillP_step (by omega)⟩, trivial⟩, ?_⟩
              repeat' first | exact True.intro | exact rfl | exact ⟨rfl, rfl⟩ | refine And.intro ?_ ?_
            · try dsimp only [Ty.T] at h7
              try simp only [castL_self] at h7
              try simp only [Int.toNat_natCast] at h7
              try simp only [Int.toNat_zero] at h7
              refine AWPD.exit ?_
              refine hK29 _ _ ?_
              clear hK29
              refine AWPD.seq fun K34 hK34 => ?_
              -- region 26
              refine AWPD.keep [9] rfl ?_
              refine AWPD.region (tabOK.own [84]) rfl ?_
              refine hK34 _ _ ?_
              clear hK34
              refine AWPD.ret (And.intro (.inl rfl) ?_)
              -- result 4
              first
                | exact ⟨fitN rfl (leftV_no (by rw [hE]; first | decide | exact h1)) (by decide), fitI rfl hE.symm⟩
                | exact ⟨fitR rfl rfl (by rw [lm.2, if_neg hns]), fitI rfl lm.1.symm⟩
                | exact ⟨fitR rfl rfl (by rw [lm.2, if_pos hsm, hjv]; rfl), fitI rfl lm.1.symm⟩
                | exact ⟨fitR rfl rfl (by rw [lf.2, ← hke, ← fillP_all, show i = p.toNat by omega]), fitI rfl lf.1.symm⟩
                | (have hle := powI_le gp2 (show k + 1 ≤ (need - 1 - l.length).toNat by omega); have h6 : 1000000000000 < powI p k * p := h6; have he : leftE p l need = 4 := (by unfold leftE; rw [if_neg (by omega), if_neg (fun h => h hn), if_pos ⟨h2, by rw [powI] at hle; omega⟩]); exact ⟨fitN rfl (leftV_no (by rw [he]; decide)) (by decide), fitI rfl he.symm⟩)
  · try dsimp only [Ty.T] at h0
    try simp only [castL_self] at h0
    try simp only [Int.toNat_natCast] at h0
    try simp only [Int.toNat_zero] at h0
    have hn0 : sharesE p l = 0 → (1 ≤ need ∧ need ≤ 12) := fun hh => by have := gif_f h0 hh; simpa using this
    refine AWPD.skip ?_
    refine hK3 _ _ ?_
    clear hK3
    refine AWPD.seq fun K35 hK35 => ?_
    refine AWPD.seq fun K36 hK36 => ?_
    -- region 4
    refine AWPD.keep [0, 1, 2, 8] rfl ?_
    refine AWPD.region (tabOK.own [84]) rfl ?_
    refine hK36 _ _ ?_
    clear hK36
    first | refine AWPD.condP rfl (fun h1 => ?_) (fun h1 => ?_) | refine AWPD.condN rfl (fun h1 => ?_) (fun h1 => ?_) | refine AWPD.condAP rfl (fun h1 => ?_) (fun h1 => ?_) | refine AWPD.condOP rfl (fun h1 => ?_) (fun h1 => ?_) | refine AWPD.condONN rfl (fun h1 => ?_) (fun h1 => ?_) | refine AWPD.condOPN rfl (fun h1 => ?_) (fun h1 => ?_) | refine AWPD.condA rfl (fun h1 => ?_) (fun h1 => ?_) | refine AWPD.condO rfl (fun h1 => ?_) (fun h1 => ?_) | refine AWPD.cond rfl (fun h1 => ?_) (fun h1 => ?_)
    · try dsimp only [Ty.T] at h1
      try simp only [castL_self] at h1
      try simp only [Int.toNat_natCast] at h1
      try simp only [Int.toNat_zero] at h1
      try have hE : leftE p l need = sharesE p l := by unfold leftE; rw [if_pos h1]
      refine AWPD.seq fun K37 hK37 => ?_
      -- region 5
      refine AWPD.keep [8] rfl ?_
      refine AWPD.region (tabOK.own [84]) rfl ?_
      refine hK37 _ _ ?_
      clear hK37
      refine AWPD.ret (And.intro (.inl rfl) ?_)
      -- result 5
      first
        | exact ⟨fitN rfl (leftV_no (by rw [hE]; first | decide | exact h1)) (by decide), fitI rfl hE.symm⟩
        | exact ⟨fitR rfl rfl (by rw [lm.2, if_neg hns]), fitI rfl lm.1.symm⟩
        | exact ⟨fitR rfl rfl (by rw [lm.2, if_pos hsm, hjv]; rfl), fitI rfl lm.1.symm⟩
        | exact ⟨fitR rfl rfl (by rw [lf.2, ← hke, ← fillP_all, show i = p.toNat by omega]), fitI rfl lf.1.symm⟩
        | (have hle := powI_le gp2 (show k + 1 ≤ (need - 1 - l.length).toNat by omega); have h6 : 1000000000000 < powI p k * p := h6; have he : leftE p l need = 4 := (by unfold leftE; rw [if_neg (by omega), if_neg (fun h => h hn), if_pos ⟨h2, by rw [powI] at hle; omega⟩]); exact ⟨fitN rfl (leftV_no (by rw [he]; decide)) (by decide), fitI rfl he.symm⟩)
    · try dsimp only [Ty.T] at h1
      try simp only [castL_self] at h1
      try simp only [Int.toNat_natCast] at h1
      try simp only [Int.toNat_zero] at h1
      try (exact absurd (by decide) h1; done)
      all_goals
        have hs : sharesE p l = 0 := by omega
        have hn := hn0 hs
        have g := shares_good hs
        have gp2 := g.p2
        have gp3 := g.p31
        have gf := g.few
        have hfe : fieldE p = 0 := by
          unfold sharesE at hs
          split at hs
          · rename_i h; exact absurd hs h
          · omega
        refine AWPD.skip ?_
        refine hK35 _ _ ?_
        clear hK35
        refine AWPD.seq fun K38 hK38 => ?_
        -- region 6
        refine AWPD.keep [0, 1, 2] rfl ?_
        refine AWPD.region (tabOK.own [84]) rfl ?_
        repeat refine And.intro (by first | exact fun h => h | exact fun _ => rfl | (intro h; rw [h]; rfl) | omega | (intros; (try dsimp only [Ty.T, Ty.size]); (try simp only [castL_self, Int.toNat_natCast, Int.toNat_zero, Int.toNat_one, true_and, List.length_append, List.length_set, List.length_drop, List.length_take, List.length_replicate, List.length_cons, List.length_nil, Nat.zero_add, Nat.mul_one]); omega) | decide | (intros; simp_all; done) | (intros; simp_all; omega)) ?_
        refine hK38 _ _ ?_
        clear hK38
        refine AWPD.seq fun K39 hK39 => ?_
        refine AWPD.seq fun K40 hK40 => ?_
        -- region 7
        refine AWPD.keep [0, 1, 2, 9] rfl ?_
        refine AWPD.region (tabOK.own [84]) rfl ?_
        refine hK40 _ _ ?_
        clear hK40
        first | refine AWPD.condP rfl (fun h2 => ?_) (fun h2 => ?_) | refine AWPD.condN rfl (fun h2 => ?_) (fun h2 => ?_) | refine AWPD.condAP rfl (fun h2 => ?_) (fun h2 => ?_) | refine AWPD.condOP rfl (fun h2 => ?_) (fun h2 => ?_) | refine AWPD.condONN rfl (fun h2 => ?_) (fun h2 => ?_) | refine AWPD.condOPN rfl (fun h2 => ?_) (fun h2 => ?_) | refine AWPD.condA rfl (fun h2 => ?_) (fun h2 => ?_) | refine AWPD.condO rfl (fun h2 => ?_) (fun h2 => ?_) | refine AWPD.cond rfl (fun h2 => ?_) (fun h2 => ?_)
        · try dsimp only [Ty.T] at h2
          try simp only [castL_self] at h2
          try simp only [Int.toNat_natCast] at h2
          try simp only [Int.toNat_zero] at h2
          have hnl : need.toNat ≤ l.length := by omega
          have htg := take_good g hfe (n := need.toNat) (by omega) hnl
          have gt := shares_good htg
          have hjv := nev_join htg
          have hj0 := nevV_in gp2 (l.take need.toNat) 0
          have lm := left_many hs hn (by omega)
          have lt : (l.take need.toNat).length = need.toNat := by rw [List.length_take]; omega
          refine AWPD.seq fun K41 hK41 => ?_
          refine AWPD.seq fun K42 hK42 => ?_
          -- region 8
          refine AWPD.keep [0, 1, 2, 9] rfl ?_
          refine AWPD.region (tabOK.own [84]) rfl ?_
          refine hK42 _ _ ?_
          clear hK42
          refine AWPD.block ?_
          -- LOOP 0 live [0, 1, 2, 9, 10] changed [10]
          refine AWPD.loopK (σ := Nat) [0, 1, 2] (fun i base => (9, .ob 0) :: (10, .i (i : Int)) :: base) (fun i => [.row 3 .int (List.replicate p.toNat 0)]) (fun n i => n + i = l.length ∧ need.toNat ≤ i ∧ ∀ a, need.toNat ≤ a → a < i → nevV p (l.take need.toNat) (l.getD a (0, 0)).1 = (l.getD a (0, 0)).2) (l.length - need.toNat) need.toNat [0] rfl rfl (⟨by omega, by omega, fun a h1 h2 => by omega⟩) (by decide) ⟨⟨rfl, rfl, rfl⟩, trivial⟩ (by repeat' first | (show need = ((need.toNat : Nat) : Int); omega) | exact True.intro | exact rfl | exact ⟨rfl, rfl⟩ | refine And.intro ?_ ?_) fun n0 i hI0 => ?_
          obtain ⟨hn9, hi9, hv0⟩ := hI0
          refine AWPD.seq fun K43 hK43 => ?_
          refine AWPD.seq fun K44 hK44 => ?_
          -- region 9
          refine AWPD.keep [0, 1, 2, 9, 10] rfl ?_
          refine AWPD.region (tabOK.own [84]) rfl ?_
          refine hK44 _ _ ?_
          clear hK44
          first | refine AWPD.condP rfl (fun h3 => ?_) (fun h3 => ?_) | refine AWPD.condN rfl (fun h3 => ?_) (fun h3 => ?_) | refine AWPD.condAP rfl (fun h3 => ?_) (fun h3 => ?_) | refine AWPD.condOP rfl (fun h3 => ?_) (fun h3 => ?_) | refine AWPD.condONN rfl (fun h3 => ?_) (fun h3 => ?_) | refine AWPD.condOPN rfl (fun h3 => ?_) (fun h3 => ?_) | refine AWPD.condA rfl (fun h3 => ?_) (fun h3 => ?_) | refine AWPD.condO rfl (fun h3 => ?_) (fun h3 => ?_) | refine AWPD.cond rfl (fun h3 => ?_) (fun h3 => ?_)
          · try dsimp only [Ty.T] at h3
            try simp only [castL_self] at h3
            try simp only [Int.toNat_natCast] at h3
            try simp only [Int.toNat_zero] at h3
            have hil : i < l.length := by omega
            have hai := g.at_ i hil
            have hoth := nev_other g hfe (n := need.toNat) (j := i - need.toNat) (by omega) hnl (by omega)
            rw [show need.toNat + (i - need.toNat) = i by omega] at hoth
            refine AWPD.skip ?_
            refine hK43 _ _ ?_
            clear hK43
            refine AWPD.seq fun K45 hK45 => ?_
            refine AWPD.block ?_
            refine AWPD.seq fun K46 hK46 => ?_
            -- region 11
            refine AWPD.keep [0, 1, 2, 9, 10] rfl ?_
            refine AWPD.draw (tabOK.own [84]) [] rfl (by kernel_rfl) ?_
            repeat refine And.intro (by first | exact fun h => h | exact fun _ => rfl | (intro h; rw [h]; rfl) | omega | (intros; (try dsimp only [Ty.T, Ty.size]); (try simp only [castL_self, Int.toNat_natCast, Int.toNat_zero, Int.toNat_one, true_and, List.length_append, List.length_set, List.length_drop, List.length_take, List.length_replicate, List.length_cons, List.length_nil, Nat.zero_add, Nat.mul_one]); omega) | decide | (intros; simp_all; done) | (intros; simp_all; omega)) ?_
            refine Exists.intro _ (Exists.intro _ (And.intro (StepD.call (at4_fn p (l.take need.toNat) (l.getD i (0, 0)).1 gt (by omega)) rfl rfl rfl) (And.intro rfl (And.intro rfl ?_))))
            repeat refine And.intro (by first | exact fun h => h | exact fun _ => rfl | (intro h; rw [h]; rfl) | omega | (intros; (try dsimp only [Ty.T, Ty.size]); (try simp only [castL_self, Int.toNat_natCast, Int.toNat_zero, Int.toNat_one, true_and, List.length_append, List.length_set, List.length_drop, List.length_take, List.length_replicate, List.length_cons, List.length_nil, Nat.zero_add, Nat.mul_one]); omega) | decide | (intros; simp_all; done) | (intros; simp_all; omega)) ?_
            refine hK46 _ _ ?_
            clear hK46
            first | refine AWPD.condP rfl (fun h4 => ?_) (fun h4 => ?_) | refine AWPD.condN rfl (fun h4 => ?_) (fun h4 => ?_) | refine AWPD.condAP rfl (fun h4 => ?_) (fun h4 => ?_) | refine AWPD.condOP rfl (fun h4 => ?_) (fun h4 => ?_) | refine AWPD.condONN rfl (fun h4 => ?_) (fun h4 => ?_) | refine AWPD.condOPN rfl (fun h4 => ?_) (fun h4 => ?_) | refine AWPD.condA rfl (fun h4 => ?_) (fun h4 => ?_) | refine AWPD.condO rfl (fun h4 => ?_) (fun h4 => ?_) | refine AWPD.cond rfl (fun h4 => ?_) (fun h4 => ?_)
            · try dsimp only [Ty.T] at h4
              try simp only [castL_self] at h4
              try simp only [Int.toNat_natCast] at h4
              try simp only [Int.toNat_zero] at h4
              have h4 : ¬nevV p (l.take need.toNat) (l.getD i (0, 0)).1 = (l.getD i (0, 0)).2 := h4
              have hns : ¬sameS p l need.toNat := fun hh => h4 (hoth.1 (by have := hh (i - need.toNat) (by omega); rw [show need.toNat + (i - need.toNat) = i by omega] at this; exact this))
              refine AWPD.seq fun K47 hK47 => ?_
              -- region 12
              refine AWPD.keep [9] rfl ?_
              refine AWPD.region (tabOK.own [84]) rfl ?_
              refine hK47 _ _ ?_
              clear hK47
              refine AWPD.ret (And.intro (.inl rfl) ?_)
              -- result 6
              first
                | exact ⟨fitN rfl (leftV_no (by rw [hE]; first | decide | exact h1)) (by decide), fitI rfl hE.symm⟩
                | exact ⟨fitR rfl rfl (by rw [lm.2, if_neg hns]), fitI rfl lm.1.symm⟩
                | exact ⟨fitR rfl rfl (by rw [lm.2, if_pos hsm, hjv]; rfl), fitI rfl lm.1.symm⟩
                | exact ⟨fitR rfl rfl (by rw [lf.2, ← hke, ← fillP_all, show i = p.toNat by omega]), fitI rfl lf.1.symm⟩
                | (have hle := powI_le gp2 (show k + 1 ≤ (need - 1 - l.length).toNat by omega); have h6 : 1000000000000 < powI p k * p := h6; have he : leftE p l need = 4 := (by unfold leftE; rw [if_neg (by omega), if_neg (fun h => h hn), if_pos ⟨h2, by rw [powI] at hle; omega⟩]); exact ⟨fitN rfl (leftV_no (by rw [he]; decide)) (by decide), fitI rfl he.symm⟩)
            · try dsimp only [Ty.T] at h4
              try simp only [castL_self] at h4
              try simp only [Int.toNat_natCast] at h4
              try simp only [Int.toNat_zero] at h4
              have h4 : nevV p (l.take need.toNat) (l.getD i (0, 0)).1 = (l.getD i (0, 0)).2 := Decidable.not_not.1 h4
              refine AWPD.skip ?_
              refine hK45 _ _ ?_
              clear hK45
              -- region 10
              refine AWPD.keep [0, 1, 2, 9, 10] rfl ?_
              refine AWPD.region (tabOK.own [84]) rfl ?_
              repeat refine And.intro (by first | exact fun h => h | exact fun _ => rfl | (intro h; rw [h]; rfl) | omega | (intros; (try dsimp only [Ty.T, Ty.size]); (try simp only [castL_self, Int.toNat_natCast, Int.toNat_zero, Int.toNat_one, true_and, List.length_append, List.length_set, List.length_drop, List.length_take, List.length_replicate, List.length_cons, List.length_nil, Nat.zero_add, Nat.mul_one]); omega) | decide | (intros; simp_all; done) | (intros; simp_all; omega)) ?_
              refine ⟨n0 - 1, i + 1, [0], by omega, ⟨by omega, by omega, fun a h1 h2 => by
                  rcases Nat.lt_or_ge a i with h | h
                  · exact hv0 a h1 h
                  · rw [show a = i by omega]; exact h4⟩, ⟨by decide, rfl⟩, ⟨⟨rfl, rfl, rfl⟩, trivial⟩, ?_⟩
              repeat' first | exact True.intro | exact rfl | exact ⟨rfl, rfl⟩ | refine And.intro ?_ ?_
          · try dsimp only [Ty.T] at h3
            try simp only [castL_self] at h3
            try simp only [Int.toNat_natCast] at h3
            try simp only [Int.toNat_zero] at h3
            have hil : i = l.length := by omega
            have hsm : sameS p l need.toNat := fun a ha => (nev_other g hfe (n := need.toNat) (j := a) (by omega) hnl ha).2 (hv0 (need.toNat + a) (by omega) (by omega))
            refine AWPD.exit ?_
            refine hK41 _ _ ?_
            clear hK41
            refine AWPD.seq fun K48 hK48 => ?_
            -- region 13
            refine AWPD.keep [0, 1, 2, 9] rfl ?_
            refine AWPD.region (tabOK.own [84]) rfl ?_
            repeat refine And.intro (by first | exact fun h => h | exact fun _ => rfl | (intro h; rw [h]; rfl) | omega | (intros; (try dsimp only [Ty.T, Ty.size]); (try simp only [castL_self, Int.toNat_natCast, Int.toNat_zero, Int.toNat_one, true_and, List.length_append, List.length_set, List.length_drop, List.length_take, List.length_replicate, List.length_cons, List.length_nil, Nat.zero_add, Nat.mul_one]); omega) | decide | (intros; simp_all; done) | (intros; simp_all; omega)) ?_
            refine Exists.intro _ (Exists.intro _ (And.intro (StepD.call (at4_fn p (l.take need.toNat) 0 gt (by omega)) rfl rfl rfl) (And.intro rfl (And.intro trivial ?_))))
            repeat refine And.intro (by first | exact fun h => h | exact fun _ => rfl | (intro h; rw [h]; rfl) | omega | (intros; (try dsimp only [Ty.T, Ty.size]); (try simp only [castL_self, Int.toNat_natCast, Int.toNat_zero, Int.toNat_one, true_and, List.length_append, List.length_set, List.length_drop, List.length_take, List.length_replicate, List.length_cons, List.length_nil, Nat.zero_add, Nat.mul_one]); omega) | decide | (intros; simp_all; done) | (intros; simp_all; omega)) ?_
            refine hK48 _ _ ?_
            clear hK48
            refine AWPD.seq fun K49 hK49 => ?_
            -- region 14
            refine AWPD.keep [9] rfl ?_
            refine AWPD.region (tabOK.own [84]) rfl ?_
            refine hK49 _ _ ?_
            clear hK49
            refine AWPD.ret (And.intro (.inl rfl) ?_)
            -- result 7
            first
              | exact ⟨fitN rfl (leftV_no (by rw [hE]; first | decide | exact h1)) (by decide), fitI rfl hE.symm⟩
              | exact ⟨fitR rfl rfl (by rw [lm.2, if_neg hns]), fitI rfl lm.1.symm⟩
              | exact ⟨fitR rfl rfl (by rw [lm.2, if_pos hsm, hjv]; rfl), fitI rfl lm.1.symm⟩
              | exact ⟨fitR rfl rfl (by rw [lf.2, ← hke, ← fillP_all, show i = p.toNat by omega]), fitI rfl lf.1.symm⟩
              | (have hle := powI_le gp2 (show k + 1 ≤ (need - 1 - l.length).toNat by omega); have h6 : 1000000000000 < powI p k * p := h6; have he : leftE p l need = 4 := (by unfold leftE; rw [if_neg (by omega), if_neg (fun h => h hn), if_pos ⟨h2, by rw [powI] at hle; omega⟩]); exact ⟨fitN rfl (leftV_no (by rw [he]; decide)) (by decide), fitI rfl he.symm⟩)
        · try dsimp only [Ty.T] at h2
          try simp only [castL_self] at h2
          try simp only [Int.toNat_natCast] at h2
          try simp only [Int.toNat_zero] at h2
          have h2 : (l.length : Int) < need := by omega
          refine AWPD.skip ?_
          refine hK39 _ _ ?_
          clear hK39
          refine AWPD.seq fun K50 hK50 => ?_
          -- region 15
          refine AWPD.keep [0, 1, 2, 9] rfl ?_
          refine AWPD.region (tabOK.own [84]) rfl ?_
          refine hK50 _ _ ?_
          clear hK50
          refine AWPD.seq fun K51 hK51 => ?_
          refine AWPD.seq fun K52 hK52 => ?_
          -- region 16
          refine AWPD.keep [0, 1, 2, 9, 11] rfl ?_
          refine AWPD.region (tabOK.own [84]) rfl ?_
          repeat refine And.intro (by first | exact fun h => h | exact fun _ => rfl | (intro h; rw [h]; rfl) | omega | (intros; (try dsimp only [Ty.T, Ty.size]); (try simp only [castL_self, Int.toNat_natCast, Int.toNat_zero, Int.toNat_one, true_and, List.length_append, List.length_set, List.length_drop, List.length_take, List.length_replicate, List.length_cons, List.length_nil, Nat.zero_add, Nat.mul_one]); omega) | decide | (intros; simp_all; done) | (intros; simp_all; omega)) ?_
          refine hK52 _ _ ?_
          clear hK52
          refine AWPD.block ?_
          -- LOOP 1 live [0, 2, 9, 11, 12] changed [11, 12]
          refine AWPD.loopK (σ := Nat) [0, 2] (fun k base => (9, .ob 0) :: (11, .i (powI p k)) :: (12, .i ((l.length : Int) + 1 + (k : Int))) :: base) (fun k => [.row 3 .int (List.replicate p.toNat 0)]) (fun n k => n + k = (need - 1 - l.length).toNat ∧ powI p k ≤ 1000000000000) ((need - 1 - l.length).toNat) 0 [0] rfl rfl (⟨by omega, (by show (1 : Int) ≤ 1000000000000; decide)⟩) (by decide) ⟨⟨rfl, rfl, rfl⟩, trivial⟩ (by repeat' first | (show (1 : Int) = powI p 0; rfl) | (show (l.length : Int) + 1 = (l.length : Int) + 1 + ((0 : Nat) : Int); omega) | exact True.intro | exact rfl | exact ⟨rfl, rfl⟩ | refine And.intro ?_ ?_) fun n1 k hI1 => ?_
          obtain ⟨hn1, hv1⟩ := hI1
          refine AWPD.seq fun K53 hK53 => ?_
          refine AWPD.seq fun K54 hK54 => ?_
          -- region 17
          refine AWPD.keep [0, 2, 9, 11, 12] rfl ?_
          refine AWPD.region (tabOK.own [84]) rfl ?_
          refine hK54 _ _ ?_
          clear hK54
          first | refine AWPD.condP rfl (fun h5 => ?_) (fun h5 => ?_) | refine AWPD.condN rfl (fun h5 => ?_) (fun h5 => ?_) | refine AWPD.condAP rfl (fun h5 => ?_) (fun h5 => ?_) | refine AWPD.condOP rfl (fun h5 => ?_) (fun h5 => ?_) | refine AWPD.condONN rfl (fun h5 => ?_) (fun h5 => ?_) | refine AWPD.condOPN rfl (fun h5 => ?_) (fun h5 => ?_) | refine AWPD.condA rfl (fun h5 => ?_) (fun h5 => ?_) | refine AWPD.condO rfl (fun h5 => ?_) (fun h5 => ?_) | refine AWPD.cond rfl (fun h5 => ?_) (fun h5 => ?_)
          · try dsimp only [Ty.T] at h5
            try simp only [castL_self] at h5
            try simp only [Int.toNat_natCast] at h5
            try simp only [Int.toNat_zero] at h5
            have hst := powI_step ⟨gp2, gp3⟩ hv1
            refine AWPD.skip ?_
            refine hK53 _ _ ?_
            clear hK53
            refine AWPD.seq fun K55 hK55 => ?_
            refine AWPD.block ?_
            refine AWPD.seq fun K56 hK56 => ?_
            -- region 19
            refine AWPD.keep [0, 2, 9, 11, 12] rfl ?_
            refine AWPD.region (tabOK.own [84]) rfl ?_
            repeat refine And.intro (by first | exact fun h => h | exact fun _ => rfl | (intro h; rw [h]; rfl) | omega | (intros; (try dsimp only [Ty.T, Ty.size]); (try simp only [castL_self, Int.toNat_natCast, Int.toNat_zero, Int.toNat_one, true_and, List.length_append, List.length_set, List.length_drop, List.length_take, List.length_replicate, List.length_cons, List.length_nil, Nat.zero_add, Nat.mul_one]); omega) | decide | (intros; simp_all; done) | (intros; simp_all; omega)) ?_
            refine hK56 _ _ ?_
            clear hK56
            refine AWPD.seq fun K57 hK57 => ?_
            -- region 20
            refine AWPD.keep [0, 2, 9, 11, 12] rfl ?_
            refine AWPD.region (tabOK.own [84]) rfl ?_
            refine hK57 _ _ ?_
            clear hK57
            first | refine AWPD.condP rfl (fun h6 => ?_) (fun h6 => ?_) | refine AWPD.condN rfl (fun h6 => ?_) (fun h6 => ?_) | refine AWPD.condAP rfl (fun h6 => ?_) (fun h6 => ?_) | refine AWPD.condOP rfl (fun h6 => ?_) (fun h6 => ?_) | refine AWPD.condONN rfl (fun h6 => ?_) (fun h6 => ?_) | refine AWPD.condOPN rfl (fun h6 => ?_) (fun h6 => ?_) | refine AWPD.condA rfl (fun h6 => ?_) (fun h6 => ?_) | refine AWPD.condO rfl (fun h6 => ?_) (fun h6 => ?_) | refine AWPD.cond rfl (fun h6 => ?_) (fun h6 => ?_)
            · try dsimp only [Ty.T] at h6
              try simp only [castL_self] at h6
              try simp only [Int.toNat_natCast] at h6
              try simp only [Int.toNat_zero] at h6
              refine AWPD.seq fun K58 hK58 => ?_
              -- region 21
              refine AWPD.keep [] rfl ?_
              refine AWPD.region (tabOK.own [84]) rfl ?_
              refine hK58 _ _ ?_
              clear hK58
              refine AWPD.ret (And.intro (.inl rfl) ?_)
              -- result 8
              first
                | exact ⟨fitN rfl (leftV_no (by rw [hE]; first | decide | exact h1)) (by decide), fitI rfl hE.symm⟩
                | exact ⟨fitR rfl rfl (by rw [lm.2, if_neg hns]), fitI rfl lm.1.symm⟩
                | exact ⟨fitR rfl rfl (by rw [lm.2, if_pos hsm, hjv]; rfl), fitI rfl lm.1.symm⟩
                | exact ⟨fitR rfl rfl (by rw [lf.2, ← hke, ← fillP_all, show i = p.toNat by omega]), fitI rfl lf.1.symm⟩
                | (have hle := powI_le gp2 (show k + 1 ≤ (need - 1 - l.length).toNat by omega); have h6 : 1000000000000 < powI p k * p := h6; have he : leftE p l need = 4 := (by unfold leftE; rw [if_neg (by omega), if_neg (fun h => h hn), if_pos ⟨h2, by rw [powI] at hle; omega⟩]); exact ⟨fitN rfl (leftV_no (by rw [he]; decide)) (by decide), fitI rfl he.symm⟩)
            · try dsimp only [Ty.T] at h6
              try simp only [castL_self] at h6
              try simp only [Int.toNat_natCast] at h6
              try simp only [Int.toNat_zero] at h6
              refine AWPD.skip ?_
              refine hK55 _ _ ?_
              clear hK55
              -- region 18
              refine AWPD.keep [0, 2, 9, 11, 12] rfl ?_
              refine AWPD.region (tabOK.own [84]) rfl ?_
              repeat refine And.intro (by first | exact fun h => h | exact fun _ => rfl | (intro h; rw [h]; rfl) | omega | (intros; (try dsimp only [Ty.T, Ty.size]); (try simp only [castL_self, Int.toNat_natCast, Int.toNat_zero, Int.toNat_one, true_and, List.length_append, List.length_set, List.length_drop, List.length_take, List.length_replicate, List.length_cons, List.length_nil, Nat.zero_add, Nat.mul_one]); omega) | decide | (intros; simp_all; done) | (intros; simp_all; omega)) ?_
              refine ⟨n1 - 1, k + 1, [0], by omega, ⟨by omega, (by have h : ¬1000000000000 < powI p k * p := h6; rw [powI]; omega)⟩, ⟨by decide, rfl⟩, ⟨⟨rfl, rfl, rfl⟩, trivial⟩, ?_⟩
              repeat' first | (show powI p k * p = powI p (k + 1); rfl) | (show (l.length : Int) + 1 + (k : Int) + 1 = (l.length : Int) + 1 + ((k + 1 : Nat) : Int); omega) | exact True.intro | exact rfl | exact ⟨rfl, rfl⟩ | refine And.intro ?_ ?_
          · try dsimp only [Ty.T] at h5
            try simp only [castL_self] at h5
            try simp only [Int.toNat_natCast] at h5
            try simp only [Int.toNat_zero] at h5
            refine AWPD.exit ?_
            refine hK51 _ _ ?_
            clear hK51
            refine AWPD.seq fun K59 hK59 => ?_
            refine AWPD.seq fun K60 hK60 => ?_
            -- region 22
            refine AWPD.keep [0, 9, 11] rfl ?_
            refine AWPD.region (tabOK.own [84]) rfl ?_
            refine hK60 _ _ ?_
            clear hK60
            refine AWPD.block ?_
            -- LOOP 2 live [0, 9, 11, 13] changed [13]
            have hke : k = (need - 1 - l.length).toNat := by omega
            have lf := left_few hs hn h2 (by rw [← hke]; exact hv1)
            refine AWPD.loopK (σ := Nat) [0, 11] (fun i base => (9, .ob 0) :: (13, .i (i : Int)) :: base) (fun i => [.row 3 .int (fillP p (powI p k) i)]) (fun n i => n + i = p.toNat) (p.toNat) 0 [0] rfl rfl (by omega) (by decide) ⟨⟨rfl, rfl, fillP_zero _ _⟩, trivial⟩ (by repeat' first | exact True.intro | exact rfl | exact ⟨rfl, rfl⟩ | refine And.intro ?_ ?_) fun n2 i hI2 => ?_
            have hn2 := hI2
            have hfl := fillP_len (p := p) (c := powI p k) (i := i) (by omega)
            refine AWPD.seq fun K61 hK61 => ?_
            refine AWPD.seq fun K62 hK62 => ?_
            -- region 23
            refine AWPD.keep [0, 9, 11, 13] rfl ?_
            refine AWPD.region (tabOK.own [84]) rfl ?_
            refine hK62 _ _ ?_
            clear hK62
            first | refine AWPD.condP rfl (fun h7 => ?_) (fun h7 => ?_) | refine AWPD.condN rfl (fun h7 => ?_) (fun h7 => ?_) | refine AWPD.condAP rfl (fun h7 => ?_) (fun h7 => ?_) | refine AWPD.condOP rfl (fun h7 => ?_) (fun h7 => ?_) | refine AWPD.condONN rfl (fun h7 => ?_) (fun h7 => ?_) | refine AWPD.condOPN rfl (fun h7 => ?_) (fun h7 => ?_) | refine AWPD.condA rfl (fun h7 => ?_) (fun h7 => ?_) | refine AWPD.condO rfl (fun h7 => ?_) (fun h7 => ?_) | refine AWPD.cond rfl (fun h7 => ?_) (fun h7 => ?_)
            · try dsimp only [Ty.T] at h7
              try simp only [castL_self] at h7
              try simp only [Int.toNat_natCast] at h7
              try simp only [Int.toNat_zero] at h7
              refine AWPD.skip ?_
              refine hK61 _ _ ?_
              clear hK61
              refine AWPD.seq fun K63 hK63 => ?_
              refine AWPD.block ?_
              -- region 25
              refine AWPD.keep [0, 9, 11, 13] rfl ?_
              refine AWPD.region (tabOK.own [84]) rfl ?_
              repeat refine And.intro (by first | exact fun h => h | exact fun _ => rfl | (intro h; rw [h]; rfl) | omega | (intros; (try dsimp only [Ty.T, Ty.size]); (try simp only [castL_self, Int.toNat_natCast, Int.toNat_zero, Int.toNat_one, true_and, List.length_append, List.length_set, List.length_drop, List.length_take, List.length_replicate, List.length_cons, List.length_nil, Nat.zero_add, Nat.mul_one]); omega) | decide | (intros; simp_all; done) | (intros; simp_all; omega)) ?_
              refine hK63 _ _ ?_
              clear hK63
              -- region 24
              refine AWPD.keep [0, 9, 11, 13] rfl ?_
              refine AWPD.region (tabOK.own [84]) rfl ?_
              repeat refine And.intro (by first | exact fun h => h | exact fun _ => rfl | (intro h; rw [h]; rfl) | omega | (intros; (try dsimp only [Ty.T, Ty.size]); (try simp only [castL_self, Int.toNat_natCast, Int.toNat_zero, Int.toNat_one, true_and, List.length_append, List.length_set, List.length_drop, List.length_take, List.length_replicate, List.length_cons, List.length_nil, Nat.zero_add, Nat.mul_one]); omega) | decide | (intros; simp_all; done) | (intros; simp_all; omega)) ?_
              refine ⟨n2 - 1, i + 1, [0], by omega, by omega, ⟨by decide, rfl⟩, ⟨⟨rfl, rfl, fillP_step (by omega)⟩, trivial⟩, ?_⟩
              repeat' first | exact True.intro | exact rfl | exact ⟨rfl, rfl⟩ | refine And.intro ?_ ?_
            · try dsimp only [Ty.T] at h7
              try simp only [castL_self] at h7
              try simp only [Int.toNat_natCast] at h7
              try simp only [Int.toNat_zero] at h7
              refine AWPD.exit ?_
              refine hK59 _ _ ?_
              clear hK59
              refine AWPD.seq fun K64 hK64 => ?_
              -- region 26
              refine AWPD.keep [9] rfl ?_
              refine AWPD.region (tabOK.own [84]) rfl ?_
              refine hK64 _ _ ?_
              clear hK64
              refine AWPD.ret (And.intro (.inl rfl) ?_)
              -- result 9
              first
                | exact ⟨fitN rfl (leftV_no (by rw [hE]; first | decide | exact h1)) (by decide), fitI rfl hE.symm⟩
                | exact ⟨fitR rfl rfl (by rw [lm.2, if_neg hns]), fitI rfl lm.1.symm⟩
                | exact ⟨fitR rfl rfl (by rw [lm.2, if_pos hsm, hjv]; rfl), fitI rfl lm.1.symm⟩
                | exact ⟨fitR rfl rfl (by rw [lf.2, ← hke, ← fillP_all, show i = p.toNat by omega]), fitI rfl lf.1.symm⟩
                | (have hle := powI_le gp2 (show k + 1 ≤ (need - 1 - l.length).toNat by omega); have h6 : 1000000000000 < powI p k * p := h6; have he : leftE p l need = 4 := (by unfold leftE; rw [if_neg (by omega), if_neg (fun h => h hn), if_pos ⟨h2, by rw [powI] at hle; omega⟩]); exact ⟨fitN rfl (leftV_no (by rw [he]; decide)) (by decide), fitI rfl he.symm⟩)
theorem splitSays_fn (p s : Int) (rest : List Int) (m : Int) (l : List Sh) (need : Int) : LiftsG Tryd.prog errG 4 [.i p, .i s, .sl .int rest, .i m, .sl .two l, .i need] (.b true) := by
  have hdf := dealL_few p s rest m
  have hlf := leftV_few p l need
  refine LiftsG.of_body 106 [.tmp 12] Tryd.func4 rfl Tryd.ntmps4 (by kernel_rfl) rfl rfl fun w0 X0 hG0 => ?_
  refine AWPD.seq fun K1 hK1 => ?_
  -- region 0
  refine AWPD.keep [0, 1, 2, 3, 4, 5] rfl ?_
  refine AWPD.region tabOK rfl ?_
  refine hK1 _ _ ?_
  clear hK1
  refine AWPD.seq fun K2 hK2 => ?_
  -- region 1
  refine AWPD.keep [0, 1, 2, 3, 4, 5] rfl ?_
  refine AWPD.region tabOK rfl ?_
  refine Exists.intro _ (Exists.intro _ (And.intro (StepD.call (field_fn _) rfl rfl rfl) (And.intro rfl (And.intro trivial ?_))))
  refine Exists.intro _ (Exists.intro _ (And.intro (StepD.call (rfield_fn _) rfl rfl rfl) (And.intro rfl (And.intro trivial ?_))))
  refine Exists.intro _ (Exists.intro _ (And.intro (StepD.callG errG_stays rfl hG0 (error_fn _ _) rfl rfl rfl) (And.intro rfl (And.intro trivial ?_))))
  refine hK2 _ _ ?_
  clear hK2
  refine AWPD.seq fun K3 hK3 => ?_
  -- region 2
  refine AWPD.keep [0, 1, 2, 3, 4, 5, 13] rfl ?_
  refine AWPD.region tabOK rfl ?_
  refine Exists.intro _ (Exists.intro _ (And.intro (StepD.call (rdeal_fn _ _ _ _) rfl rfl rfl) (And.intro rfl (And.intro trivial ?_))))
  refine hK3 _ _ ?_
  clear hK3
  refine AWPD.seq fun K4 hK4 => ?_
  -- region 3
  refine AWPD.keep [0, 1, 2, 3, 4, 5, 13, 14, 15] rfl ?_
  refine AWPD.region tabOK rfl ?_
  refine Exists.intro _ (Exists.intro _ (And.intro (StepD.call (deal_fn _ _ _ _) rfl rfl rfl) (And.intro rfl (And.intro trivial ?_))))
  refine hK4 _ _ ?_
  clear hK4
  refine AWPD.seq fun K5 hK5 => ?_
  -- region 4
  refine AWPD.keep [0, 4, 5, 13, 14, 15, 16, 17] rfl ?_
  refine AWPD.region tabOK rfl ?_
  refine Exists.intro _ (Exists.intro _ (And.intro (StepD.callG errG_stays rfl hG0 (error_fn _ _) rfl rfl rfl) (And.intro rfl (And.intro trivial ?_))))
  repeat refine And.intro (by first | exact fun h => h | exact fun _ => rfl | (intro h; rw [h]; rfl) | omega | (intros; (try dsimp only [Ty.T, Ty.size]); (try simp only [castL_self, Int.toNat_natCast, Int.toNat_zero, Int.toNat_one, true_and, List.length_append, List.length_set, List.length_drop, List.length_take, List.length_replicate, List.length_cons, List.length_nil, Nat.zero_add, Nat.mul_one]); omega) | decide | (intros; simp_all; done) | (intros; simp_all; omega)) ?_
  refine Exists.intro _ (Exists.intro _ (And.intro (fun hg => StepD.call (same_shares_fn _ _ (by omega)) rfl rfl rfl) (And.intro (fun hf => rfl) (And.intro rfl (And.intro trivial ?_)))))
  repeat refine And.intro (by first | exact fun h => h | exact fun _ => rfl | (intro h; rw [h]; rfl) | omega | (intros; (try dsimp only [Ty.T, Ty.size]); (try simp only [castL_self, Int.toNat_natCast, Int.toNat_zero, Int.toNat_one, true_and, List.length_append, List.length_set, List.length_drop, List.length_take, List.length_replicate, List.length_cons, List.length_nil, Nat.zero_add, Nat.mul_one]); omega) | decide | (intros; simp_all; done) | (intros; simp_all; omega)) ?_
  refine hK5 _ _ ?_
  clear hK5
  refine AWPD.seq fun K6 hK6 => ?_
  -- region 5
  refine AWPD.keep [0, 4, 5, 13, 18] rfl ?_
  refine AWPD.region tabOK rfl ?_
  refine Exists.intro _ (Exists.intro _ (And.intro (StepD.call (rshares_fn _ _) rfl rfl rfl) (And.intro rfl (And.intro trivial ?_))))
  refine hK6 _ _ ?_
  clear hK6
  refine AWPD.seq fun K7 hK7 => ?_
  -- region 6
  refine AWPD.keep [0, 4, 5, 13, 15, 18] rfl ?_
  refine AWPD.region tabOK rfl ?_
  refine hK7 _ _ ?_
  clear hK7
  refine AWPD.seq fun K8 hK8 => ?_
  refine AWPD.seq fun K9 hK9 => ?_
  -- region 7
  refine AWPD.keep [0, 4, 5, 13, 15, 18, 19] rfl ?_
  refine AWPD.region tabOK rfl ?_
  refine hK9 _ _ ?_
  clear hK9
  first | refine AWPD.condP rfl (fun h0 => ?_) (fun h0 => ?_) | refine AWPD.condN rfl (fun h0 => ?_) (fun h0 => ?_) | refine AWPD.condAP rfl (fun h0 => ?_) (fun h0 => ?_) | refine AWPD.condOP rfl (fun h0 => ?_) (fun h0 => ?_) | refine AWPD.condONN rfl (fun h0 => ?_) (fun h0 => ?_) | refine AWPD.condOPN rfl (fun h0 => ?_) (fun h0 => ?_) | refine AWPD.condA rfl (fun h0 => ?_) (fun h0 => ?_) | refine AWPD.condO rfl (fun h0 => ?_) (fun h0 => ?_) | refine AWPD.cond rfl (fun h0 => ?_) (fun h0 => ?_)
  · try dsimp only [Ty.T] at h0
    try simp only [castL_self] at h0
    try simp only [Int.toNat_natCast] at h0
    try simp only [Int.toNat_zero] at h0
    have hs : sharesE p l = 0 := h0
    have g := shares_good hs
    have gp2 := g.p2
    have hj := nev_join hs
    -- region 8
    refine AWPD.keep [0, 4, 5, 13, 15, 18] rfl ?_
    refine AWPD.region tabOK rfl ?_
    refine Exists.intro _ (Exists.intro _ (And.intro (StepD.call (at4_fn p l 0 g (by omega)) rfl rfl rfl) (And.intro rfl (And.intro trivial ?_))))
    refine hK8 _ _ ?_
    clear hK8
    refine AWPD.seq fun K10 hK10 => ?_
    -- region 9
    refine AWPD.keep [0, 4, 5, 13, 15, 18, 19] rfl ?_
    refine AWPD.region tabOK rfl ?_
    refine Exists.intro _ (Exists.intro _ (And.intro (StepD.call (join_fn _ _) rfl rfl rfl) (And.intro rfl (And.intro trivial ?_))))
    refine hK10 _ _ ?_
    clear hK10
    refine AWPD.seq fun K11 hK11 => ?_
    -- region 10
    refine AWPD.keep [0, 4, 5, 13, 15, 17, 18, 19, 20] rfl ?_
    refine AWPD.region tabOK rfl ?_
    refine Exists.intro _ (Exists.intro _ (And.intro (StepD.callG errG_stays rfl hG0 (error_fn _ _) rfl rfl rfl) (And.intro rfl (And.intro trivial ?_))))
    repeat refine And.intro (by first | exact fun h => h | exact fun _ => rfl | (intro h; rw [h]; rfl) | omega | (intros; (try dsimp only [Ty.T, Ty.size]); (try simp only [castL_self, Int.toNat_natCast, Int.toNat_zero, Int.toNat_one, true_and, List.length_append, List.length_set, List.length_drop, List.length_take, List.length_replicate, List.length_cons, List.length_nil, Nat.zero_add, Nat.mul_one]); omega) | decide | (intros; simp_all; done) | (intros; simp_all; omega)) ?_
    refine hK11 _ _ ?_
    clear hK11
    refine AWPD.seq fun K12 hK12 => ?_
    -- region 11
    refine AWPD.keep [0, 4, 5, 13, 18, 21] rfl ?_
    refine AWPD.region tabOK rfl ?_
    refine Exists.intro _ (Exists.intro _ (And.intro (StepD.call (rleft_fn _ _ _) rfl rfl rfl) (And.intro rfl (And.intro trivial ?_))))
    refine hK12 _ _ ?_
    clear hK12
    refine AWPD.seq fun K13 hK13 => ?_
    -- region 12
    refine AWPD.keep [0, 4, 5, 13, 15, 18, 21, 22] rfl ?_
    refine AWPD.region tabOK rfl ?_
    refine Exists.intro _ (Exists.intro _ (And.intro (StepD.call (left_fn _ _ _) rfl rfl rfl) (And.intro rfl (And.intro trivial ?_))))
    refine hK13 _ _ ?_
    clear hK13
    refine AWPD.seq fun K14 hK14 => ?_
    -- region 13
    refine AWPD.keep [13, 15, 17, 18, 21, 22, 23] rfl ?_
    refine AWPD.region tabOK rfl ?_
    repeat refine And.intro (by first | exact fun h => h | exact fun _ => rfl | (intro h; rw [h]; rfl) | omega | (intros; (try dsimp only [Ty.T, Ty.size]); (try simp only [castL_self, Int.toNat_natCast, Int.toNat_zero, Int.toNat_one, true_and, List.length_append, List.length_set, List.length_drop, List.length_take, List.length_replicate, List.length_cons, List.length_nil, Nat.zero_add, Nat.mul_one]); omega) | decide | (intros; simp_all; done) | (intros; simp_all; omega)) ?_
    refine Exists.intro _ (Exists.intro _ (And.intro (fun hg => StepD.callG errG_stays rfl hG0 (error_fn _ _) rfl rfl rfl) (And.intro (fun hf => rfl) (And.intro rfl (And.intro trivial ?_)))))
    repeat refine And.intro (by first | exact fun h => h | exact fun _ => rfl | (intro h; rw [h]; rfl) | omega | (intros; (try dsimp only [Ty.T, Ty.size]); (try simp only [castL_self, Int.toNat_natCast, Int.toNat_zero, Int.toNat_one, true_and, List.length_append, List.length_set, List.length_drop, List.length_take, List.length_replicate, List.length_cons, List.length_nil, Nat.zero_add, Nat.mul_one]); omega) | decide | (intros; simp_all; done) | (intros; simp_all; omega)) ?_
    refine Exists.intro _ (Exists.intro _ (And.intro (fun hg => StepD.call (ints_fn _ _ (by omega)) rfl rfl rfl) (And.intro (fun hf => rfl) (And.intro rfl (And.intro trivial ?_)))))
    repeat refine And.intro (by first | exact fun h => h | exact fun _ => rfl | (intro h; rw [h]; rfl) | omega | (intros; (try dsimp only [Ty.T, Ty.size]); (try simp only [castL_self, Int.toNat_natCast, Int.toNat_zero, Int.toNat_one, true_and, List.length_append, List.length_set, List.length_drop, List.length_take, List.length_replicate, List.length_cons, List.length_nil, Nat.zero_add, Nat.mul_one]); omega) | decide | (intros; simp_all; done) | (intros; simp_all; omega)) ?_
    refine hK14 _ _ ?_
    clear hK14
    refine AWPD.ret (And.intro (.inl rfl) ?_)
    -- result 0
    refine RetD.one ?_
    refine fitB rfl ?_
    rw [hj]
    simp
  · try dsimp only [Ty.T] at h0
    try simp only [castL_self] at h0
    try simp only [Int.toNat_natCast] at h0
    try simp only [Int.toNat_zero] at h0
    have hj : joinV p l = 0 := by unfold joinV; rw [if_neg h0]
    refine AWPD.skip ?_
    refine hK8 _ _ ?_
    clear hK8
    refine AWPD.seq fun K15 hK15 => ?_
    -- region 9
    refine AWPD.keep [0, 4, 5, 13, 15, 18, 19] rfl ?_
    refine AWPD.region tabOK rfl ?_
    refine Exists.intro _ (Exists.intro _ (And.intro (StepD.call (join_fn _ _) rfl rfl rfl) (And.intro rfl (And.intro trivial ?_))))
    refine hK15 _ _ ?_
    clear hK15
    refine AWPD.seq fun K16 hK16 => ?_
    -- region 10
    refine AWPD.keep [0, 4, 5, 13, 15, 17, 18, 19, 20] rfl ?_
    refine AWPD.region tabOK rfl ?_
    refine Exists.intro _ (Exists.intro _ (And.intro (StepD.callG errG_stays rfl hG0 (error_fn _ _) rfl rfl rfl) (And.intro rfl (And.intro trivial ?_))))
    repeat refine And.intro (by first | exact fun h => h | exact fun _ => rfl | (intro h; rw [h]; rfl) | omega | (intros; (try dsimp only [Ty.T, Ty.size]); (try simp only [castL_self, Int.toNat_natCast, Int.toNat_zero, Int.toNat_one, true_and, List.length_append, List.length_set, List.length_drop, List.length_take, List.length_replicate, List.length_cons, List.length_nil, Nat.zero_add, Nat.mul_one]); omega) | decide | (intros; simp_all; done) | (intros; simp_all; omega)) ?_
    refine hK16 _ _ ?_
    clear hK16
    refine AWPD.seq fun K17 hK17 => ?_
    -- region 11
    refine AWPD.keep [0, 4, 5, 13, 18, 21] rfl ?_
    refine AWPD.region tabOK rfl ?_
    refine Exists.intro _ (Exists.intro _ (And.intro (StepD.call (rleft_fn _ _ _) rfl rfl rfl) (And.intro rfl (And.intro trivial ?_))))
    refine hK17 _ _ ?_
    clear hK17
    refine AWPD.seq fun K18 hK18 => ?_
    -- region 12
    refine AWPD.keep [0, 4, 5, 13, 15, 18, 21, 22] rfl ?_
    refine AWPD.region tabOK rfl ?_
    refine Exists.intro _ (Exists.intro _ (And.intro (StepD.call (left_fn _ _ _) rfl rfl rfl) (And.intro rfl (And.intro trivial ?_))))
    refine hK18 _ _ ?_
    clear hK18
    refine AWPD.seq fun K19 hK19 => ?_
    -- region 13
    refine AWPD.keep [13, 15, 17, 18, 21, 22, 23] rfl ?_
    refine AWPD.region tabOK rfl ?_
    repeat refine And.intro (by first | exact fun h => h | exact fun _ => rfl | (intro h; rw [h]; rfl) | omega | (intros; (try dsimp only [Ty.T, Ty.size]); (try simp only [castL_self, Int.toNat_natCast, Int.toNat_zero, Int.toNat_one, true_and, List.length_append, List.length_set, List.length_drop, List.length_take, List.length_replicate, List.length_cons, List.length_nil, Nat.zero_add, Nat.mul_one]); omega) | decide | (intros; simp_all; done) | (intros; simp_all; omega)) ?_
    refine Exists.intro _ (Exists.intro _ (And.intro (fun hg => StepD.callG errG_stays rfl hG0 (error_fn _ _) rfl rfl rfl) (And.intro (fun hf => rfl) (And.intro rfl (And.intro trivial ?_)))))
    repeat refine And.intro (by first | exact fun h => h | exact fun _ => rfl | (intro h; rw [h]; rfl) | omega | (intros; (try dsimp only [Ty.T, Ty.size]); (try simp only [castL_self, Int.toNat_natCast, Int.toNat_zero, Int.toNat_one, true_and, List.length_append, List.length_set, List.length_drop, List.length_take, List.length_replicate, List.length_cons, List.length_nil, Nat.zero_add, Nat.mul_one]); omega) | decide | (intros; simp_all; done) | (intros; simp_all; omega)) ?_
    refine Exists.intro _ (Exists.intro _ (And.intro (fun hg => StepD.call (ints_fn _ _ (by omega)) rfl rfl rfl) (And.intro (fun hf => rfl) (And.intro rfl (And.intro trivial ?_)))))
    repeat refine And.intro (by first | exact fun h => h | exact fun _ => rfl | (intro h; rw [h]; rfl) | omega | (intros; (try dsimp only [Ty.T, Ty.size]); (try simp only [castL_self, Int.toNat_natCast, Int.toNat_zero, Int.toNat_one, true_and, List.length_append, List.length_set, List.length_drop, List.length_take, List.length_replicate, List.length_cons, List.length_nil, Nat.zero_add, Nat.mul_one]); omega) | decide | (intros; simp_all; done) | (intros; simp_all; omega)) ?_
    refine hK19 _ _ ?_
    clear hK19
    refine AWPD.ret (And.intro (.inl rfl) ?_)
    -- result 1
    refine RetD.one ?_
    refine fitB rfl ?_
    rw [hj]
    simp
end Go.Proofs.YtdikoipldcjcpaaDoor
