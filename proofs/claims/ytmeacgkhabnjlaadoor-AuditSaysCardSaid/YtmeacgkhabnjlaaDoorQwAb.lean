/-
  WALK of the law AuditSays. Laid by a program of mine out of the operations, with the loops and results told by hand.
-/
import Derived.Test.YtmeacgkhabnjlaaDoorQwAz
namespace Go.Proofs.YtmeacgkhabnjlaaDoor
open Go Go.Qw
set_option maxRecDepth 10000
set_option linter.unusedSimpArgs false
set_option linter.unusedVariables false
set_option linter.unusedSectionVars false


theorem tellE_t {z : Int} {asks : List Int} {s : Int} (h : (bif decide (askE z asks = 0) then !maskB s z else false) = true) : askE z asks = 0 ∧ tellE z asks s = 1 := by
  by_cases he : askE z asks = 0
  · rw [decide_eq_true he] at h
    have h : (!maskB s z) = true := h
    exact ⟨he, by unfold tellE; rw [if_pos he, if_neg (fun hh => by rw [hh] at h; cases h)]⟩
  · rw [decide_eq_false he] at h; cases h
theorem tellE_f {z : Int} {asks : List Int} {s : Int} (h : (bif decide (askE z asks = 0) then !maskB s z else false) = false) : tellE z asks s = askE z asks ∧ (askE z asks = 0 → maskB s z = true) := by
  by_cases he : askE z asks = 0
  · rw [decide_eq_true he] at h
    have h : (!maskB s z) = false := h
    have hm : maskB s z = true := by simpa using h
    exact ⟨by unfold tellE; rw [if_pos he, if_pos hm, he], fun _ => hm⟩
  · exact ⟨by unfold tellE; rw [if_neg he], fun hh => absurd hh he⟩
theorem tellV_eq {z : Int} {asks : List Int} {s : Int} : tellV z asks s = (bif decide (tellE z asks s = 0) then decide (cutV (ofV asks).1 s.toNat = 0) else false) := by
  unfold tellV
  cases decide (tellE z asks s = 0) <;> rfl
theorem ansV_20 (z : Int) (asks : List Int) (b : Int) : (ansV z asks b).length ≤ 20 := by
  by_cases h : tellE z asks b = 0
  · exact ansV_len z (ask_ok (tell_ok h).1).len b
  · unfold ansV; rw [if_neg h]; simp
theorem ans_end {z : Int} {asks : List Int} {b : Int} {i : Nat} (h0 : i = 0 ∨ tellE z asks b = 0) (h : ¬(i < asks.length ∧ tellE z asks b = 0)) (hi : i ≤ asks.length) : ansL asks b i = ansV z asks b := by
  unfold ansV
  by_cases ht : tellE z asks b = 0
  · rw [if_pos ht, show i = asks.length by omega]
  · rw [if_neg ht]
    rcases h0 with h0 | h0
    · rw [h0]; rfl
    · exact absurd h0 ht
theorem twin_bits_err {z : Int} {asks : List Int} {bits s : Int} (hb5 : ¬tellE z asks bits = 0) : twinE z asks bits s = tellE z asks bits ∧ twinV z asks bits s = 0 := by
  have h9 : twinE z asks bits s = tellE z asks bits := by
    unfold twinE tellE
    unfold tellE at hb5
    by_cases hz : askE z asks = 0
    · rw [if_pos hz] at hb5 ⊢
      by_cases hy : maskB bits z = true
      · rw [if_pos hy] at hb5; exact absurd rfl hb5
      · rw [if_neg (fun hx => hy hx.1), if_pos hz, if_neg hy]
    · rw [if_neg hz, if_neg hz]
  exact ⟨h9, by unfold twinV; rw [h9, if_neg hb5]⟩
theorem rank_none {z : Int} {asks : List Int} (h : ¬askE z asks = 0) : rankV z asks = 0 := by unfold rankV; rw [if_neg h]

set_option maxHeartbeats 4000000 in
theorem auditSays_fn (z : Int) (asks : List Int) (bits s : Int) : LiftsG Tryd.prog errG 4 [.i z, .sl .int asks, .i bits, .i s] (.b true) := by
  refine LiftsG.of_body 175 [.tmp 8] Tryd.func4 rfl Tryd.ntmps4 (by kernel_rfl) rfl rfl fun w0 X0 hG0 => ?_
  refine AWPD.seq fun K1 hK1 => ?_
  -- region 0
  refine AWPD.keep [0, 1, 2, 3] rfl ?_
  refine AWPD.region tabOK rfl ?_
  refine hK1 _ _ ?_
  clear hK1
  refine AWPD.seq fun K2 hK2 => ?_
  -- region 1
  refine AWPD.keep [0, 1, 2, 3] rfl ?_
  refine AWPD.region tabOK rfl ?_
  refine Exists.intro _ (Exists.intro _ (And.intro (StepD.call (asks_fn _ _) rfl rfl rfl) (And.intro rfl (And.intro trivial ?_))))
  refine hK2 _ _ ?_
  clear hK2
  refine AWPD.seq fun K3 hK3 => ?_
  -- region 2
  refine AWPD.keep [0, 1, 2, 3, 9] rfl ?_
  refine AWPD.region tabOK rfl ?_
  refine Exists.intro _ (Exists.intro _ (And.intro (StepD.call (acheck_fn _ _) rfl rfl rfl) (And.intro rfl (And.intro trivial ?_))))
  refine Exists.intro _ (Exists.intro _ (And.intro (StepD.callG errG_stays rfl hG0 (error_fn _ _) rfl rfl rfl) (And.intro rfl (And.intro trivial ?_))))
  refine hK3 _ _ ?_
  clear hK3
  refine AWPD.seq fun K4 hK4 => ?_
  -- region 3
  refine AWPD.keep [0, 1, 2, 3, 9, 10] rfl ?_
  refine AWPD.region tabOK rfl ?_
  refine hK4 _ _ ?_
  clear hK4
  refine AWPD.seq fun K5 hK5 => ?_
  -- region 4
  refine AWPD.keep [0, 1, 2, 3, 9, 10, 11] rfl ?_
  refine AWPD.region tabOK rfl ?_
  refine hK5 _ _ ?_
  clear hK5
  refine AWPD.seq fun K6 hK6 => ?_
  refine AWPD.seq fun K7 hK7 => ?_
  -- region 5
  refine AWPD.keep [0, 1, 2, 3, 9, 10, 11, 12] rfl ?_
  refine AWPD.region tabOK rfl ?_
  refine hK7 _ _ ?_
  clear hK7
  first | refine AWPD.condP rfl (fun h0 => ?_) (fun h0 => ?_) | refine AWPD.condN rfl (fun h0 => ?_) (fun h0 => ?_) | refine AWPD.condAP rfl (fun h0 => ?_) (fun h0 => ?_) | refine AWPD.condOP rfl (fun h0 => ?_) (fun h0 => ?_) | refine AWPD.condONN rfl (fun h0 => ?_) (fun h0 => ?_) | refine AWPD.condOPN rfl (fun h0 => ?_) (fun h0 => ?_) | refine AWPD.condA rfl (fun h0 => ?_) (fun h0 => ?_) | refine AWPD.condO rfl (fun h0 => ?_) (fun h0 => ?_) | refine AWPD.cond rfl (fun h0 => ?_) (fun h0 => ?_)
  · try dsimp only [Ty.T] at h0
    try simp only [castL_self] at h0
    try simp only [Int.toNat_natCast] at h0
    try simp only [Int.toNat_zero] at h0
    have he : askE z asks = 0 := h0
    have g := ask_ok he
    have gz := g.n0
    have gl := g.len
    have hrk := rankV_ok he
    have hsl := sumL_len (2 ^ z.toNat) (ofV asks).1
    -- region 6
    refine AWPD.keep [0, 1, 2, 3, 9, 10] rfl ?_
    refine AWPD.region tabOK rfl ?_
    refine Exists.intro _ (Exists.intro _ (And.intro (StepD.call (sums_fn _ _ (by assumption)) rfl rfl rfl) (And.intro rfl (And.intro trivial ?_))))
    refine hK6 _ _ ?_
    clear hK6
    refine AWPD.seq fun K8 hK8 => ?_
    -- region 7
    refine AWPD.keep [0, 1, 2, 3, 9, 10, 11, 12] rfl ?_
    refine AWPD.region tabOK rfl ?_
    refine Exists.intro _ (Exists.intro _ (And.intro (StepD.call (rank_fn _ _) rfl rfl rfl) (And.intro rfl (And.intro trivial ?_))))
    refine hK8 _ _ ?_
    clear hK8
    refine AWPD.seq fun K9 hK9 => ?_
    -- region 8
    refine AWPD.keep [0, 1, 2, 3, 9, 10, 11, 12, 13, 14] rfl ?_
    refine AWPD.region tabOK rfl ?_
    refine Exists.intro _ (Exists.intro _ (And.intro (StepD.callG errG_stays rfl hG0 (error_fn _ _) rfl rfl rfl) (And.intro rfl (And.intro trivial ?_))))
    repeat refine And.intro (by first | (intro hg; exact absurd hg (by decide)) | (intro hg; exact absurd (by simpa using hg) he) | (intro hg; have := hmi he; rw [hsl]; omega) | exact fun h => h | exact fun _ => rfl | (intro h; rw [h]; rfl) | omega | (intros; (try dsimp only [Ty.T, Ty.size]); (try simp only [castL_self, Int.toNat_natCast, Int.toNat_zero, Int.toNat_one, true_and, List.length_append, List.length_set, List.length_drop, List.length_take, List.length_replicate, List.length_cons, List.length_nil, Nat.zero_add, Nat.mul_one]); omega) | decide | (intros; simp_all; done) | (intros; simp_all; omega)) ?_
    refine hK9 _ _ ?_
    clear hK9
    refine AWPD.seq fun K10 hK10 => ?_
    -- region 9
    refine AWPD.keep [0, 1, 2, 3, 9, 10, 12, 15] rfl ?_
    refine AWPD.region tabOK rfl ?_
    refine hK10 _ _ ?_
    clear hK10
    refine AWPD.seq fun K11 hK11 => ?_
    refine AWPD.seq fun K12 hK12 => ?_
    -- region 10
    refine AWPD.keep [0, 1, 2, 3, 9, 10, 12, 15, 16] rfl ?_
    refine AWPD.region tabOK rfl ?_
    repeat refine And.intro (by first | (intro hg; exact absurd hg (by decide)) | (intro hg; exact absurd (by simpa using hg) he) | (intro hg; have := hmi he; rw [hsl]; omega) | exact fun h => h | exact fun _ => rfl | (intro h; rw [h]; rfl) | omega | (intros; (try dsimp only [Ty.T, Ty.size]); (try simp only [castL_self, Int.toNat_natCast, Int.toNat_zero, Int.toNat_one, true_and, List.length_append, List.length_set, List.length_drop, List.length_take, List.length_replicate, List.length_cons, List.length_nil, Nat.zero_add, Nat.mul_one]); omega) | decide | (intros; simp_all; done) | (intros; simp_all; omega)) ?_
    refine Exists.intro _ (Exists.intro _ (And.intro (fun hg => StepD.call (rmask_fn s z (by first | omega | exact absurd (by simpa using hg) he)) rfl rfl rfl) (And.intro (fun hf => rfl) (And.intro rfl (And.intro trivial ?_)))))
    repeat refine And.intro (by first | (intro hg; exact absurd hg (by decide)) | (intro hg; exact absurd (by simpa using hg) he) | (intro hg; have := hmi he; rw [hsl]; omega) | exact fun h => h | exact fun _ => rfl | (intro h; rw [h]; rfl) | omega | (intros; (try dsimp only [Ty.T, Ty.size]); (try simp only [castL_self, Int.toNat_natCast, Int.toNat_zero, Int.toNat_one, true_and, List.length_append, List.length_set, List.length_drop, List.length_take, List.length_replicate, List.length_cons, List.length_nil, Nat.zero_add, Nat.mul_one]); omega) | decide | (intros; simp_all; done) | (intros; simp_all; omega)) ?_
    refine hK12 _ _ ?_
    clear hK12
    first | refine AWPD.cond rfl (fun h1 => ?_) (fun h1 => ?_)
    · try dsimp only [Ty.T] at h1
      try simp only [castL_self] at h1
      try simp only [Int.toNat_natCast] at h1
      try simp only [Int.toNat_zero] at h1
      try (exact absurd (tellE_t h1).1 he; done)
      all_goals
        obtain ⟨he1, hT⟩ := tellE_t h1
        have hV : tellV z asks s = false := by rw [tellV_eq, hT]; rfl
        -- region 11
        refine AWPD.keep [0, 1, 2, 3, 9, 10, 12, 15] rfl ?_
        refine AWPD.region tabOK rfl ?_
        refine hK11 _ _ ?_
        clear hK11
        refine AWPD.seq fun K13 hK13 => ?_
        -- region 12
        refine AWPD.keep [0, 1, 2, 3, 9, 10, 12, 15, 16] rfl ?_
        refine AWPD.region tabOK rfl ?_
        repeat refine And.intro (by first | (intro hg; exact absurd hg (by decide)) | (intro hg; exact absurd (by simpa using hg) he) | (intro hg; have := hmi he; rw [hsl]; omega) | exact fun h => h | exact fun _ => rfl | (intro h; rw [h]; rfl) | omega | (intros; (try dsimp only [Ty.T, Ty.size]); (try simp only [castL_self, Int.toNat_natCast, Int.toNat_zero, Int.toNat_one, true_and, List.length_append, List.length_set, List.length_drop, List.length_take, List.length_replicate, List.length_cons, List.length_nil, Nat.zero_add, Nat.mul_one]); omega) | decide | (intros; simp_all; done) | (intros; simp_all; omega)) ?_
        refine hK13 _ _ ?_
        clear hK13
        refine AWPD.seq fun K14 hK14 => ?_
        -- region 13
        first | rw [hsg he] | skip
        refine AWPD.keep [0, 1, 2, 3, 9, 10, 15, 16, 17] rfl ?_
        refine AWPD.region tabOK rfl ?_
        refine Exists.intro _ (Exists.intro _ (And.intro (StepD.call (tells_fn _ _ _) rfl rfl rfl) (And.intro rfl (And.intro trivial ?_))))
        refine hK14 _ _ ?_
        clear hK14
        refine AWPD.seq fun K15 hK15 => ?_
        -- region 14
        refine AWPD.keep [0, 1, 2, 3, 9, 10, 14, 15, 16, 17, 18] rfl ?_
        refine AWPD.region tabOK rfl ?_
        refine Exists.intro _ (Exists.intro _ (And.intro (StepD.callG errG_stays rfl hG0 (error_fn _ _) rfl rfl rfl) (And.intro rfl (And.intro trivial ?_))))
        repeat refine And.intro (by first | (intro hg; exact absurd hg (by decide)) | (intro hg; exact absurd (by simpa using hg) he) | (intro hg; have := hmi he; rw [hsl]; omega) | exact fun h => h | exact fun _ => rfl | (intro h; rw [h]; rfl) | omega | (intros; (try dsimp only [Ty.T, Ty.size]); (try simp only [castL_self, Int.toNat_natCast, Int.toNat_zero, Int.toNat_one, true_and, List.length_append, List.length_set, List.length_drop, List.length_take, List.length_replicate, List.length_cons, List.length_nil, Nat.zero_add, Nat.mul_one]); omega) | decide | (intros; simp_all; done) | (intros; simp_all; omega)) ?_
        refine hK15 _ _ ?_
        clear hK15
        refine AWPD.seq fun K16 hK16 => ?_
        -- region 15
        refine AWPD.keep [0, 1, 2, 3, 9, 10, 15, 19] rfl ?_
        refine AWPD.region tabOK rfl ?_
        refine hK16 _ _ ?_
        clear hK16
        refine AWPD.seq fun K17 hK17 => ?_
        have tail17 : ∀ (fr : DF) (b10 b15 b19 : Bool) (t16 : Int), keepF fr [0, 1, 2, 3, 10, 15, 16, 19] [] = some [(19, .b b19), (16, .i t16), (15, .b b15), (10, .b b10), (3, .i s), (2, .i bits), (1, .sl .int asks), (0, .i z)] → (b10 = true ∧ b15 = true ∧ b19 = true ∧ t16 = tellE z asks bits) → K17 fr [] := by
          intro fr b10 b15 b19 t16 hkf hs
          refine hK17 fr [] (AWPD.keep [0, 1, 2, 3, 10, 15, 16, 19] hkf ?_)
          clear hkf hK17
          obtain ⟨rfl, rfl, rfl, rfl⟩ := hs
          clear h0
          refine AWPD.seq fun K18 hK18 => ?_
          -- region 18
          refine AWPD.keep [0, 1, 2, 3, 10, 15, 16, 19] rfl ?_
          refine AWPD.region tabOK rfl ?_
          refine hK18 _ _ ?_
          clear hK18
          refine AWPD.seq fun K19 hK19 => ?_
          refine AWPD.seq fun K20 hK20 => ?_
          -- region 19
          refine AWPD.keep [0, 1, 2, 3, 10, 15, 16, 19, 20] rfl ?_
          refine AWPD.region tabOK rfl ?_
          refine hK20 _ _ ?_
          clear hK20
          refine AWPD.block ?_
          -- LOOP 0 live [0, 1, 2, 3, 10, 15, 16, 19, 20, 21] changed [20, 21]
          refine AWPD.nilRow 20 3 .int rfl (by decide) ?_
          refine AWPD.loopK (σ := Nat) [0, 1, 2, 3, 10, 15, 16, 19] (fun i base => (20, .ob 0) :: (21, .i (i : Int)) :: base) (fun i => [.row 3 .int (ansL asks bits i)]) (fun n i => n + i = asks.length ∧ (i = 0 ∨ tellE z asks bits = 0)) asks.length 0 [0] rfl rfl (⟨rfl, .inl rfl⟩) (by decide) ⟨⟨rfl, rfl, rfl⟩, trivial⟩ (by repeat' first | exact True.intro | exact rfl | exact ⟨rfl, rfl⟩ | refine And.intro ?_ ?_) fun n0 i hI0 => ?_
          obtain ⟨hn0, hi0⟩ := hI0
          have hall := ansL_len asks bits i
          refine AWPD.seq fun K21 hK21 => ?_
          refine AWPD.seq fun K22 hK22 => ?_
          -- region 20
          refine AWPD.keep [0, 1, 2, 3, 10, 15, 16, 19, 20, 21] rfl ?_
          refine AWPD.region tabOK rfl ?_
          repeat refine And.intro (by first | (intro hg; exact absurd hg (by decide)) | (intro hg; exact absurd (by simpa using hg) he) | (intro hg; have := hmi he; rw [hsl]; omega) | exact fun h => h | exact fun _ => rfl | (intro h; rw [h]; rfl) | omega | (intros; (try dsimp only [Ty.T, Ty.size]); (try simp only [castL_self, Int.toNat_natCast, Int.toNat_zero, Int.toNat_one, true_and, List.length_append, List.length_set, List.length_drop, List.length_take, List.length_replicate, List.length_cons, List.length_nil, Nat.zero_add, Nat.mul_one]); omega) | decide | (intros; simp_all; done) | (intros; simp_all; omega)) ?_
          refine hK22 _ _ ?_
          clear hK22
          first | refine AWPD.condP rfl (fun h3 => ?_) (fun h3 => ?_) | refine AWPD.condN rfl (fun h3 => ?_) (fun h3 => ?_) | refine AWPD.condAP rfl (fun h3 => ?_) (fun h3 => ?_) | refine AWPD.condOP rfl (fun h3 => ?_) (fun h3 => ?_) | refine AWPD.condONN rfl (fun h3 => ?_) (fun h3 => ?_) | refine AWPD.condOPN rfl (fun h3 => ?_) (fun h3 => ?_) | refine AWPD.condA rfl (fun h3 => ?_) (fun h3 => ?_) | refine AWPD.condO rfl (fun h3 => ?_) (fun h3 => ?_) | refine AWPD.cond rfl (fun h3 => ?_) (fun h3 => ?_)
          · try dsimp only [Ty.T] at h3
            try simp only [castL_self] at h3
            try simp only [Int.toNat_natCast] at h3
            try simp only [Int.toNat_zero] at h3
            have hh := tell_ok h3.2
            have gg := ask_ok hh.1
            have ggl := gg.len
            have gb := tell_in h3.2
            have hil : i < asks.length := by omega
            have hai := gg.small hil
            refine AWPD.skip ?_
            refine hK21 _ _ ?_
            clear hK21
            refine AWPD.seq fun K23 hK23 => ?_
            refine AWPD.block ?_
            -- region 22
            refine AWPD.keep [0, 1, 2, 3, 10, 15, 16, 19, 20, 21] rfl ?_
            refine AWPD.region tabOK rfl ?_
            repeat refine And.intro (by first | (intro hg; exact absurd hg (by decide)) | (intro hg; exact absurd (by simpa using hg) he) | (intro hg; have := hmi he; rw [hsl]; omega) | exact fun h => h | exact fun _ => rfl | (intro h; rw [h]; rfl) | omega | (intros; (try dsimp only [Ty.T, Ty.size]); (try simp only [castL_self, Int.toNat_natCast, Int.toNat_zero, Int.toNat_one, true_and, List.length_append, List.length_set, List.length_drop, List.length_take, List.length_replicate, List.length_cons, List.length_nil, Nat.zero_add, Nat.mul_one]); omega) | decide | (intros; simp_all; done) | (intros; simp_all; omega)) ?_
            refine Exists.intro _ (Exists.intro _ (And.intro (StepD.call (odd_fn (asks.getD i 0) bits (by omega) (by omega)) rfl rfl rfl) (And.intro rfl (And.intro trivial ?_))))
            repeat refine And.intro (by first | (intro hg; exact absurd hg (by decide)) | (intro hg; exact absurd (by simpa using hg) he) | (intro hg; have := hmi he; rw [hsl]; omega) | exact fun h => h | exact fun _ => rfl | (intro h; rw [h]; rfl) | omega | (intros; (try dsimp only [Ty.T, Ty.size]); (try simp only [castL_self, Int.toNat_natCast, Int.toNat_zero, Int.toNat_one, true_and, List.length_append, List.length_set, List.length_drop, List.length_take, List.length_replicate, List.length_cons, List.length_nil, Nat.zero_add, Nat.mul_one]); omega) | decide | (intros; simp_all; done) | (intros; simp_all; omega)) ?_
            refine hK23 _ _ ?_
            clear hK23
            -- region 21
            refine AWPD.keep [0, 1, 2, 3, 10, 15, 16, 19, 20, 21] rfl ?_
            refine AWPD.region tabOK rfl ?_
            repeat refine And.intro (by first | (intro hg; exact absurd hg (by decide)) | (intro hg; exact absurd (by simpa using hg) he) | (intro hg; have := hmi he; rw [hsl]; omega) | exact fun h => h | exact fun _ => rfl | (intro h; rw [h]; rfl) | omega | (intros; (try dsimp only [Ty.T, Ty.size]); (try simp only [castL_self, Int.toNat_natCast, Int.toNat_zero, Int.toNat_one, true_and, List.length_append, List.length_set, List.length_drop, List.length_take, List.length_replicate, List.length_cons, List.length_nil, Nat.zero_add, Nat.mul_one]); omega) | decide | (intros; simp_all; done) | (intros; simp_all; omega)) ?_
            refine ⟨n0 - 1, i + 1, [1], by omega, ⟨by omega, .inr h3.2⟩, ⟨by decide, rfl⟩, ⟨⟨rfl, rfl, (by rw [← ansL_app]; rfl)⟩, trivial⟩, ?_⟩
            repeat' first | exact True.intro | exact rfl | exact ⟨rfl, rfl⟩ | refine And.intro ?_ ?_
          · try dsimp only [Ty.T] at h3
            try simp only [castL_self] at h3
            try simp only [Int.toNat_natCast] at h3
            try simp only [Int.toNat_zero] at h3
            have hrow : ansL asks bits i = ansV z asks bits := ans_end hi0 (fun hx => h3 ⟨by omega, hx.2⟩) (by omega)
            have hal := ansV_20 z asks bits
            refine AWPD.exit ?_
            refine hK19 _ _ ?_
            clear hK19
            refine AWPD.seq fun K24 hK24 => ?_
            -- region 23
            refine AWPD.keep [0, 1, 2, 3, 10, 15, 16, 19, 20] rfl ?_
            refine AWPD.region tabOK rfl ?_
            refine Exists.intro _ (Exists.intro _ (And.intro (StepD.call (answers_fn _ _ _) rfl rfl rfl) (And.intro rfl (And.intro trivial ?_))))
            refine hK24 _ _ ?_
            clear hK24
            refine AWPD.seq fun K25 hK25 => ?_
            -- region 24
            refine AWPD.freeze 20 rfl rfl rfl ?_
            rw [hrow]
            refine AWPD.keep [0, 1, 2, 3, 10, 14, 15, 16, 19, 20, 22] rfl ?_
            refine AWPD.region tabOK rfl ?_
            refine Exists.intro _ (Exists.intro _ (And.intro (StepD.callG errG_stays rfl hG0 (error_fn _ _) rfl rfl rfl) (And.intro rfl (And.intro trivial ?_))))
            repeat refine And.intro (by first | (intro hg; exact absurd hg (by decide)) | (intro hg; exact absurd (by simpa using hg) he) | (intro hg; have := hmi he; rw [hsl]; omega) | exact fun h => h | exact fun _ => rfl | (intro h; rw [h]; rfl) | omega | (intros; (try dsimp only [Ty.T, Ty.size]); (try simp only [castL_self, Int.toNat_natCast, Int.toNat_zero, Int.toNat_one, true_and, List.length_append, List.length_set, List.length_drop, List.length_take, List.length_replicate, List.length_cons, List.length_nil, Nat.zero_add, Nat.mul_one]); omega) | decide | (intros; simp_all; done) | (intros; simp_all; omega)) ?_
            refine Exists.intro _ (Exists.intro _ (And.intro (fun hg => StepD.call (ints_fn _ _ (by omega)) rfl rfl rfl) (And.intro (fun hf => rfl) (And.intro rfl (And.intro trivial ?_)))))
            repeat refine And.intro (by first | (intro hg; exact absurd hg (by decide)) | (intro hg; exact absurd (by simpa using hg) he) | (intro hg; have := hmi he; rw [hsl]; omega) | exact fun h => h | exact fun _ => rfl | (intro h; rw [h]; rfl) | omega | (intros; (try dsimp only [Ty.T, Ty.size]); (try simp only [castL_self, Int.toNat_natCast, Int.toNat_zero, Int.toNat_one, true_and, List.length_append, List.length_set, List.length_drop, List.length_take, List.length_replicate, List.length_cons, List.length_nil, Nat.zero_add, Nat.mul_one]); omega) | decide | (intros; simp_all; done) | (intros; simp_all; omega)) ?_
            refine hK25 _ _ ?_
            clear hK25
            refine AWPD.seq fun K26 hK26 => ?_
            refine AWPD.seq fun K27 hK27 => ?_
            -- region 25
            refine AWPD.keep [0, 1, 2, 3, 10, 15, 16, 19, 23] rfl ?_
            refine AWPD.region tabOK rfl ?_
            repeat refine And.intro (by first | (intro hg; exact absurd hg (by decide)) | (intro hg; exact absurd (by simpa using hg) he) | (intro hg; have := hmi he; rw [hsl]; omega) | exact fun h => h | exact fun _ => rfl | (intro h; rw [h]; rfl) | omega | (intros; (try dsimp only [Ty.T, Ty.size]); (try simp only [castL_self, Int.toNat_natCast, Int.toNat_zero, Int.toNat_one, true_and, List.length_append, List.length_set, List.length_drop, List.length_take, List.length_replicate, List.length_cons, List.length_nil, Nat.zero_add, Nat.mul_one]); omega) | decide | (intros; simp_all; done) | (intros; simp_all; omega)) ?_
            refine Exists.intro _ (Exists.intro _ (And.intro (fun hg => StepD.call (rmask_fn s z (by have := (ask_ok (tell_ok (by simpa using hg)).1).n0; omega)) rfl rfl rfl) (And.intro (fun hf => rfl) (And.intro rfl (And.intro trivial ?_)))))
            repeat refine And.intro (by first | (intro hg; exact absurd hg (by decide)) | (intro hg; exact absurd (by simpa using hg) he) | (intro hg; have := hmi he; rw [hsl]; omega) | exact fun h => h | exact fun _ => rfl | (intro h; rw [h]; rfl) | omega | (intros; (try dsimp only [Ty.T, Ty.size]); (try simp only [castL_self, Int.toNat_natCast, Int.toNat_zero, Int.toNat_one, true_and, List.length_append, List.length_set, List.length_drop, List.length_take, List.length_replicate, List.length_cons, List.length_nil, Nat.zero_add, Nat.mul_one]); omega) | decide | (intros; simp_all; done) | (intros; simp_all; omega)) ?_
            refine hK27 _ _ ?_
            clear hK27
            first | refine AWPD.cond rfl (fun h4 => ?_) (fun h4 => ?_)
            · try dsimp only [Ty.T] at h4
              try simp only [castL_self] at h4
              try simp only [Int.toNat_natCast] at h4
              try simp only [Int.toNat_zero] at h4
              have hE : twinE z asks bits s = 1 ∧ twinV z asks bits s = 0 := by
                by_cases hb : tellE z asks bits = 0
                · rw [decide_eq_true hb] at h4
                  have h4 : (!maskB s z) = true := h4
                  have h9 : twinE z asks bits s = 1 := by unfold twinE; rw [if_pos (tell_ok hb).1, if_neg (fun hx => by rw [hx.2] at h4; cases h4)]
                  exact ⟨h9, by unfold twinV; rw [h9]; rfl⟩
                · rw [decide_eq_false hb] at h4; cases h4
              -- region 26
              refine AWPD.keep [0, 1, 2, 3, 10, 15, 19, 23] rfl ?_
              refine AWPD.region tabOK rfl ?_
              refine hK26 _ _ ?_
              clear hK26
              refine AWPD.seq fun K28 hK28 => ?_
              -- region 27
              refine AWPD.keep [0, 1, 2, 3, 10, 15, 16, 19, 23] rfl ?_
              refine AWPD.region tabOK rfl ?_
              refine hK28 _ _ ?_
              clear hK28
              refine AWPD.seq fun K29 hK29 => ?_
              refine AWPD.seq fun K30 hK30 => ?_
              -- region 28
              refine AWPD.keep [0, 1, 2, 3, 10, 15, 16, 19, 23, 24] rfl ?_
              refine AWPD.region tabOK rfl ?_
              refine hK30 _ _ ?_
              clear hK30
              first | refine AWPD.condP rfl (fun h5 => ?_) (fun h5 => ?_) | refine AWPD.condN rfl (fun h5 => ?_) (fun h5 => ?_) | refine AWPD.condAP rfl (fun h5 => ?_) (fun h5 => ?_) | refine AWPD.condOP rfl (fun h5 => ?_) (fun h5 => ?_) | refine AWPD.condONN rfl (fun h5 => ?_) (fun h5 => ?_) | refine AWPD.condOPN rfl (fun h5 => ?_) (fun h5 => ?_) | refine AWPD.condA rfl (fun h5 => ?_) (fun h5 => ?_) | refine AWPD.condO rfl (fun h5 => ?_) (fun h5 => ?_) | refine AWPD.cond rfl (fun h5 => ?_) (fun h5 => ?_)
              · try dsimp only [Ty.T] at h5
                try simp only [castL_self] at h5
                try simp only [Int.toNat_natCast] at h5
                try simp only [Int.toNat_zero] at h5
                try (exact absurd h5 (by decide); done)
                all_goals
                  have hb5 : tellE z asks bits = 0 := h5
                  obtain ⟨he5, hm5⟩ := tell_ok hb5
                  have g5 := ask_ok he5
                  have gz5 := g5.n0
                  have gb5 := tell_in hb5
                  have hs5 := mask_in (hms hb5)
                  have hp5 := pow12 (n := z.toNat) (by omega)
                  have hgo : twinE z asks bits s = (if (twinO z asks bits s).isSome = true then 0 else 5) := by unfold twinE; rw [if_pos he5, if_pos ⟨hm5, hms hb5⟩]
                  refine AWPD.seq fun K31 hK31 => ?_
                  -- region 29
                  refine AWPD.keep [0, 1, 2, 3, 10, 15, 16, 19, 23] rfl ?_
                  refine AWPD.region tabOK rfl ?_
                  refine Exists.intro _ (Exists.intro _ (And.intro (StepD.call (twin4_fn z asks bits s g5 gb5 (by omega)) rfl rfl rfl) (And.intro rfl (And.intro trivial ?_))))
                  refine hK31 _ _ ?_
                  clear hK31
                  refine AWPD.seq fun K32 hK32 => ?_
                  -- region 30
                  refine AWPD.keep [0, 1, 2, 3, 10, 15, 16, 19, 23, 24] rfl ?_
                  refine AWPD.region tabOK rfl ?_
                  refine hK32 _ _ ?_
                  clear hK32
                  first | refine AWPD.condP rfl (fun h6 => ?_) (fun h6 => ?_) | refine AWPD.condN rfl (fun h6 => ?_) (fun h6 => ?_) | refine AWPD.condAP rfl (fun h6 => ?_) (fun h6 => ?_) | refine AWPD.condOP rfl (fun h6 => ?_) (fun h6 => ?_) | refine AWPD.condONN rfl (fun h6 => ?_) (fun h6 => ?_) | refine AWPD.condOPN rfl (fun h6 => ?_) (fun h6 => ?_) | refine AWPD.condA rfl (fun h6 => ?_) (fun h6 => ?_) | refine AWPD.condO rfl (fun h6 => ?_) (fun h6 => ?_) | refine AWPD.cond rfl (fun h6 => ?_) (fun h6 => ?_)
                  · try dsimp only [Ty.T] at h6
                    try simp only [castL_self] at h6
                    try simp only [Int.toNat_natCast] at h6
                    try simp only [Int.toNat_zero] at h6
                    have hE : twinE z asks bits s = 5 ∧ twinV z asks bits s = 0 := by
                      unfold twinK at h6
                      cases ho : twinO z asks bits s with
                      | none =>
                        have h9 : twinE z asks bits s = 5 := by rw [hgo, ho]; rfl
                        exact ⟨h9, by unfold twinV; rw [h9]; rfl⟩
                      | some x =>
                        rw [ho] at h6
                        simp only at h6
                        omega
                    refine AWPD.seq fun K33 hK33 => ?_
                    -- region 31
                    refine AWPD.keep [0, 1, 2, 3, 10, 15, 19, 23] rfl ?_
                    refine AWPD.region tabOK rfl ?_
                    refine hK33 _ _ ?_
                    clear hK33
                    -- region 32
                    refine AWPD.keep [0, 1, 2, 3, 10, 15, 16, 19, 23] rfl ?_
                    refine AWPD.region tabOK rfl ?_
                    refine hK29 _ _ ?_
                    clear hK29
                    refine AWPD.seq fun K34 hK34 => ?_
                    -- region 33
                    refine AWPD.keep [0, 1, 2, 3, 10, 15, 16, 19, 23, 24] rfl ?_
                    refine AWPD.region tabOK rfl ?_
                    refine Exists.intro _ (Exists.intro _ (And.intro (StepD.call (twin_fn _ _ _ _) rfl rfl rfl) (And.intro rfl (And.intro trivial ?_))))
                    refine hK34 _ _ ?_
                    clear hK34
                    refine AWPD.seq fun K35 hK35 => ?_
                    -- region 34
                    refine AWPD.keep [10, 13, 14, 15, 16, 19, 23, 24] rfl ?_
                    refine AWPD.region tabOK rfl ?_
                    repeat refine And.intro (by first | (intro hg; exact absurd hg (by decide)) | (intro hg; exact absurd (by simpa using hg) he) | (intro hg; have := hmi he; rw [hsl]; omega) | exact fun h => h | exact fun _ => rfl | (intro h; rw [h]; rfl) | omega | (intros; (try dsimp only [Ty.T, Ty.size]); (try simp only [castL_self, Int.toNat_natCast, Int.toNat_zero, Int.toNat_one, true_and, List.length_append, List.length_set, List.length_drop, List.length_take, List.length_replicate, List.length_cons, List.length_nil, Nat.zero_add, Nat.mul_one]); omega) | decide | (intros; simp_all; done) | (intros; simp_all; omega)) ?_
                    refine Exists.intro _ (Exists.intro _ (And.intro (fun hg => StepD.callG errG_stays rfl hG0 (error_fn _ _) rfl rfl rfl) (And.intro (fun hf => rfl) (And.intro rfl (And.intro trivial ?_)))))
                    repeat refine And.intro (by first | (intro hg; exact absurd hg (by decide)) | (intro hg; exact absurd (by simpa using hg) he) | (intro hg; have := hmi he; rw [hsl]; omega) | exact fun h => h | exact fun _ => rfl | (intro h; rw [h]; rfl) | omega | (intros; (try dsimp only [Ty.T, Ty.size]); (try simp only [castL_self, Int.toNat_natCast, Int.toNat_zero, Int.toNat_one, true_and, List.length_append, List.length_set, List.length_drop, List.length_take, List.length_replicate, List.length_cons, List.length_nil, Nat.zero_add, Nat.mul_one]); omega) | decide | (intros; simp_all; done) | (intros; simp_all; omega)) ?_
                    refine hK35 _ _ ?_
                    clear hK35
                    refine AWPD.ret (And.intro (.inl rfl) ?_)
                    -- result 0
                    refine RetD.one ?_
                    refine fitB rfl ?_
                    first | rw [hE.1, hE.2] | rw [(hE0 h5).1, (hE0 h5).2]
                    first | (simp; done) | (simp; omega)
                  · try dsimp only [Ty.T] at h6
                    try simp only [castL_self] at h6
                    try simp only [Int.toNat_natCast] at h6
                    try simp only [Int.toNat_zero] at h6
                    have hE : twinE z asks bits s = 0 ∧ twinV z asks bits s = twinK z asks bits s := by
                      unfold twinK at h6 ⊢
                      cases ho : twinO z asks bits s with
                      | none =>
                        rw [ho] at h6
                        simp only at h6
                        omega
                      | some x =>
                        have h9 : twinE z asks bits s = 0 := by rw [hgo, ho]; rfl
                        exact ⟨h9, by unfold twinV; rw [h9, ho]; rfl⟩
                    refine AWPD.skip ?_
                    refine hK29 _ _ ?_
                    clear hK29
                    refine AWPD.seq fun K36 hK36 => ?_
                    -- region 33
                    refine AWPD.keep [0, 1, 2, 3, 10, 15, 16, 19, 23, 24] rfl ?_
                    refine AWPD.region tabOK rfl ?_
                    refine Exists.intro _ (Exists.intro _ (And.intro (StepD.call (twin_fn _ _ _ _) rfl rfl rfl) (And.intro rfl (And.intro trivial ?_))))
                    refine hK36 _ _ ?_
                    clear hK36
                    refine AWPD.seq fun K37 hK37 => ?_
                    -- region 34
                    refine AWPD.keep [10, 13, 14, 15, 16, 19, 23, 24] rfl ?_
                    refine AWPD.region tabOK rfl ?_
                    repeat refine And.intro (by first | (intro hg; exact absurd hg (by decide)) | (intro hg; exact absurd (by simpa using hg) he) | (intro hg; have := hmi he; rw [hsl]; omega) | exact fun h => h | exact fun _ => rfl | (intro h; rw [h]; rfl) | omega | (intros; (try dsimp only [Ty.T, Ty.size]); (try simp only [castL_self, Int.toNat_natCast, Int.toNat_zero, Int.toNat_one, true_and, List.length_append, List.length_set, List.length_drop, List.length_take, List.length_replicate, List.length_cons, List.length_nil, Nat.zero_add, Nat.mul_one]); omega) | decide | (intros; simp_all; done) | (intros; simp_all; omega)) ?_
                    refine Exists.intro _ (Exists.intro _ (And.intro (fun hg => StepD.callG errG_stays rfl hG0 (error_fn _ _) rfl rfl rfl) (And.intro (fun hf => rfl) (And.intro rfl (And.intro trivial ?_)))))
                    repeat refine And.intro (by first | (intro hg; exact absurd hg (by decide)) | (intro hg; exact absurd (by simpa using hg) he) | (intro hg; have := hmi he; rw [hsl]; omega) | exact fun h => h | exact fun _ => rfl | (intro h; rw [h]; rfl) | omega | (intros; (try dsimp only [Ty.T, Ty.size]); (try simp only [castL_self, Int.toNat_natCast, Int.toNat_zero, Int.toNat_one, true_and, List.length_append, List.length_set, List.length_drop, List.length_take, List.length_replicate, List.length_cons, List.length_nil, Nat.zero_add, Nat.mul_one]); omega) | decide | (intros; simp_all; done) | (intros; simp_all; omega)) ?_
                    refine hK37 _ _ ?_
                    clear hK37
                    refine AWPD.ret (And.intro (.inl rfl) ?_)
                    -- result 1
                    refine RetD.one ?_
                    refine fitB rfl ?_
                    first | rw [hE.1, hE.2] | rw [(hE0 h5).1, (hE0 h5).2]
                    first | (simp; done) | (simp; omega)
              · try dsimp only [Ty.T] at h5
                try simp only [castL_self] at h5
                try simp only [Int.toNat_natCast] at h5
                try simp only [Int.toNat_zero] at h5
                have hE0 := fun (hb5 : ¬tellE z asks bits = 0) => twin_bits_err (s := s) hb5
                refine AWPD.skip ?_
                refine hK29 _ _ ?_
                clear hK29
                refine AWPD.seq fun K38 hK38 => ?_
                -- region 33
                refine AWPD.keep [0, 1, 2, 3, 10, 15, 16, 19, 23, 24] rfl ?_
                refine AWPD.region tabOK rfl ?_
                refine Exists.intro _ (Exists.intro _ (And.intro (StepD.call (twin_fn _ _ _ _) rfl rfl rfl) (And.intro rfl (And.intro trivial ?_))))
                refine hK38 _ _ ?_
                clear hK38
                refine AWPD.seq fun K39 hK39 => ?_
                -- region 34
                refine AWPD.keep [10, 13, 14, 15, 16, 19, 23, 24] rfl ?_
                refine AWPD.region tabOK rfl ?_
                repeat refine And.intro (by first | (intro hg; exact absurd hg (by decide)) | (intro hg; exact absurd (by simpa using hg) he) | (intro hg; have := hmi he; rw [hsl]; omega) | exact fun h => h | exact fun _ => rfl | (intro h; rw [h]; rfl) | omega | (intros; (try dsimp only [Ty.T, Ty.size]); (try simp only [castL_self, Int.toNat_natCast, Int.toNat_zero, Int.toNat_one, true_and, List.length_append, List.length_set, List.length_drop, List.length_take, List.length_replicate, List.length_cons, List.length_nil, Nat.zero_add, Nat.mul_one]); omega) | decide | (intros; simp_all; done) | (intros; simp_all; omega)) ?_
                refine Exists.intro _ (Exists.intro _ (And.intro (fun hg => StepD.callG errG_stays rfl hG0 (error_fn _ _) rfl rfl rfl) (And.intro (fun hf => rfl) (And.intro rfl (And.intro trivial ?_)))))
                repeat refine And.intro (by first | (intro hg; exact absurd hg (by decide)) | (intro hg; exact absurd (by simpa using hg) he) | (intro hg; have := hmi he; rw [hsl]; omega) | exact fun h => h | exact fun _ => rfl | (intro h; rw [h]; rfl) | omega | (intros; (try dsimp only [Ty.T, Ty.size]); (try simp only [castL_self, Int.toNat_natCast, Int.toNat_zero, Int.toNat_one, true_and, List.length_append, List.length_set, List.length_drop, List.length_take, List.length_replicate, List.length_cons, List.length_nil, Nat.zero_add, Nat.mul_one]); omega) | decide | (intros; simp_all; done) | (intros; simp_all; omega)) ?_
                refine hK39 _ _ ?_
                clear hK39
                refine AWPD.ret (And.intro (.inl rfl) ?_)
                -- result 2
                refine RetD.one ?_
                refine fitB rfl ?_
                first | rw [hE.1, hE.2] | rw [(hE0 h5).1, (hE0 h5).2]
                first | (simp; done) | (simp; omega)
            · try dsimp only [Ty.T] at h4
              try simp only [castL_self] at h4
              try simp only [Int.toNat_natCast] at h4
              try simp only [Int.toNat_zero] at h4
              have hms : tellE z asks bits = 0 → maskB s z = true := fun hb => by
                rw [decide_eq_true hb] at h4
                have h4 : (!maskB s z) = false := h4
                simpa using h4
              refine AWPD.skip ?_
              refine hK26 _ _ ?_
              clear hK26
              refine AWPD.seq fun K40 hK40 => ?_
              -- region 27
              refine AWPD.keep [0, 1, 2, 3, 10, 15, 16, 19, 23] rfl ?_
              refine AWPD.region tabOK rfl ?_
              refine hK40 _ _ ?_
              clear hK40
              refine AWPD.seq fun K41 hK41 => ?_
              refine AWPD.seq fun K42 hK42 => ?_
              -- region 28
              refine AWPD.keep [0, 1, 2, 3, 10, 15, 16, 19, 23, 24] rfl ?_
              refine AWPD.region tabOK rfl ?_
              refine hK42 _ _ ?_
              clear hK42
              first | refine AWPD.condP rfl (fun h5 => ?_) (fun h5 => ?_) | refine AWPD.condN rfl (fun h5 => ?_) (fun h5 => ?_) | refine AWPD.condAP rfl (fun h5 => ?_) (fun h5 => ?_) | refine AWPD.condOP rfl (fun h5 => ?_) (fun h5 => ?_) | refine AWPD.condONN rfl (fun h5 => ?_) (fun h5 => ?_) | refine AWPD.condOPN rfl (fun h5 => ?_) (fun h5 => ?_) | refine AWPD.condA rfl (fun h5 => ?_) (fun h5 => ?_) | refine AWPD.condO rfl (fun h5 => ?_) (fun h5 => ?_) | refine AWPD.cond rfl (fun h5 => ?_) (fun h5 => ?_)
              · try dsimp only [Ty.T] at h5
                try simp only [castL_self] at h5
                try simp only [Int.toNat_natCast] at h5
                try simp only [Int.toNat_zero] at h5
                try (exact absurd h5 (by decide); done)
                all_goals
                  have hb5 : tellE z asks bits = 0 := h5
                  obtain ⟨he5, hm5⟩ := tell_ok hb5
                  have g5 := ask_ok he5
                  have gz5 := g5.n0
                  have gb5 := tell_in hb5
                  have hs5 := mask_in (hms hb5)
                  have hp5 := pow12 (n := z.toNat) (by omega)
                  have hgo : twinE z asks bits s = (if (twinO z asks bits s).isSome = true then 0 else 5) := by unfold twinE; rw [if_pos he5, if_pos ⟨hm5, hms hb5⟩]
                  refine AWPD.seq fun K43 hK43 => ?_
                  -- region 29
                  refine AWPD.keep [0, 1, 2, 3, 10, 15, 16, 19, 23] rfl ?_
                  refine AWPD.region tabOK rfl ?_
                  refine Exists.intro _ (Exists.intro _ (And.intro (StepD.call (twin4_fn z asks bits s g5 gb5 (by omega)) rfl rfl rfl) (And.intro rfl (And.intro trivial ?_))))
                  refine hK43 _ _ ?_
                  clear hK43
                  refine AWPD.seq fun K44 hK44 => ?_
                  -- region 30
                  refine AWPD.keep [0, 1, 2, 3, 10, 15, 16, 19, 23, 24] rfl ?_
                  refine AWPD.region tabOK rfl ?_
                  refine hK44 _ _ ?_
                  clear hK44
                  first | refine AWPD.condP rfl (fun h6 => ?_) (fun h6 => ?_) | refine AWPD.condN rfl (fun h6 => ?_) (fun h6 => ?_) | refine AWPD.condAP rfl (fun h6 => ?_) (fun h6 => ?_) | refine AWPD.condOP rfl (fun h6 => ?_) (fun h6 => ?_) | refine AWPD.condONN rfl (fun h6 => ?_) (fun h6 => ?_) | refine AWPD.condOPN rfl (fun h6 => ?_) (fun h6 => ?_) | refine AWPD.condA rfl (fun h6 => ?_) (fun h6 => ?_) | refine AWPD.condO rfl (fun h6 => ?_) (fun h6 => ?_) | refine AWPD.cond rfl (fun h6 => ?_) (fun h6 => ?_)
                  · try dsimp only [Ty.T] at h6
                    try simp only [castL_self] at h6
                    try simp only [Int.toNat_natCast] at h6
                    try simp only [Int.toNat_zero] at h6
                    have hE : twinE z asks bits s = 5 ∧ twinV z asks bits s = 0 := by
                      unfold twinK at h6
                      cases ho : twinO z asks bits s with
                      | none =>
                        have h9 : twinE z asks bits s = 5 := by rw [hgo, ho]; rfl
                        exact ⟨h9, by unfold twinV; rw [h9]; rfl⟩
                      | some x =>
                        rw [ho] at h6
                        simp only at h6
                        omega
                    refine AWPD.seq fun K45 hK45 => ?_
                    -- region 31
                    refine AWPD.keep [0, 1, 2, 3, 10, 15, 19, 23] rfl ?_
                    refine AWPD.region tabOK rfl ?_
                    refine hK45 _ _ ?_
                    clear hK45
                    -- region 32
                    refine AWPD.keep [0, 1, 2, 3, 10, 15, 16, 19, 23] rfl ?_
                    refine AWPD.region tabOK rfl ?_
                    refine hK41 _ _ ?_
                    clear hK41
                    refine AWPD.seq fun K46 hK46 => ?_
                    -- region 33
                    refine AWPD.keep [0, 1, 2, 3, 10, 15, 16, 19, 23, 24] rfl ?_
                    refine AWPD.region tabOK rfl ?_
                    refine Exists.intro _ (Exists.intro _ (And.intro (StepD.call (twin_fn _ _ _ _) rfl rfl rfl) (And.intro rfl (And.intro trivial ?_))))
                    refine hK46 _ _ ?_
                    clear hK46
                    refine AWPD.seq fun K47 hK47 => ?_
                    -- region 34
                    refine AWPD.keep [10, 13, 14, 15, 16, 19, 23, 24] rfl ?_
                    refine AWPD.region tabOK rfl ?_
                    repeat refine And.intro (by first | (intro hg; exact absurd hg (by decide)) | (intro hg; exact absurd (by simpa using hg) he) | (intro hg; have := hmi he; rw [hsl]; omega) | exact fun h => h | exact fun _ => rfl | (intro h; rw [h]; rfl) | omega | (intros; (try dsimp only [Ty.T, Ty.size]); (try simp only [castL_self, Int.toNat_natCast, Int.toNat_zero, Int.toNat_one, true_and, List.length_append, List.length_set, List.length_drop, List.length_take, List.length_replicate, List.length_cons, List.length_nil, Nat.zero_add, Nat.mul_one]); omega) | decide | (intros; simp_all; done) | (intros; simp_all; omega)) ?_
                    refine Exists.intro _ (Exists.intro _ (And.intro (fun hg => StepD.callG errG_stays rfl hG0 (error_fn _ _) rfl rfl rfl) (And.intro (fun hf => rfl) (And.intro rfl (And.intro trivial ?_)))))
                    repeat refine And.intro (by first | (intro hg; exact absurd hg (by decide)) | (intro hg; exact absurd (by simpa using hg) he) | (intro hg; have := hmi he; rw [hsl]; omega) | exact fun h => h | exact fun _ => rfl | (intro h; rw [h]; rfl) | omega | (intros; (try dsimp only [Ty.T, Ty.size]); (try simp only [castL_self, Int.toNat_natCast, Int.toNat_zero, Int.toNat_one, true_and, List.length_append, List.length_set, List.length_drop, List.length_take, List.length_replicate, List.length_cons, List.length_nil, Nat.zero_add, Nat.mul_one]); omega) | decide | (intros; simp_all; done) | (intros; simp_all; omega)) ?_
                    refine hK47 _ _ ?_
                    clear hK47
                    refine AWPD.ret (And.intro (.inl rfl) ?_)
                    -- result 3
                    refine RetD.one ?_
                    refine fitB rfl ?_
                    first | rw [hE.1, hE.2] | rw [(hE0 h5).1, (hE0 h5).2]
                    first | (simp; done) | (simp; omega)
                  · try dsimp only [Ty.T] at h6
                    try simp only [castL_self] at h6
                    try simp only [Int.toNat_natCast] at h6
                    try simp only [Int.toNat_zero] at h6
                    have hE : twinE z asks bits s = 0 ∧ twinV z asks bits s = twinK z asks bits s := by
                      unfold twinK at h6 ⊢
                      cases ho : twinO z asks bits s with
                      | none =>
                        rw [ho] at h6
                        simp only at h6
                        omega
                      | some x =>
                        have h9 : twinE z asks bits s = 0 := by rw [hgo, ho]; rfl
                        exact ⟨h9, by unfold twinV; rw [h9, ho]; rfl⟩
                    refine AWPD.skip ?_
                    refine hK41 _ _ ?_
                    clear hK41
                    refine AWPD.seq fun K48 hK48 => ?_
                    -- region 33
                    refine AWPD.keep [0, 1, 2, 3, 10, 15, 16, 19, 23, 24] rfl ?_
                    refine AWPD.region tabOK rfl ?_
                    refine Exists.intro _ (Exists.intro _ (And.intro (StepD.call (twin_fn _ _ _ _) rfl rfl rfl) (And.intro rfl (And.intro trivial ?_))))
                    refine hK48 _ _ ?_
                    clear hK48
                    refine AWPD.seq fun K49 hK49 => ?_
                    -- region 34
                    refine AWPD.keep [10, 13, 14, 15, 16, 19, 23, 24] rfl ?_
                    refine AWPD.region tabOK rfl ?_
                    repeat refine And.intro (by first | (intro hg; exact absurd hg (by decide)) | (intro hg; exact absurd (by simpa using hg) he) | (intro hg; have := hmi he; rw [hsl]; omega) | exact fun h => h | exact fun _ => rfl | (intro h; rw [h]; rfl) | omega | (intros; (try dsimp only [Ty.T, Ty.size]); (try simp only [castL_self, Int.toNat_natCast, Int.toNat_zero, Int.toNat_one, true_and, List.length_append, List.length_set, List.length_drop, List.length_take, List.length_replicate, List.length_cons, List.length_nil, Nat.zero_add, Nat.mul_one]); omega) | decide | (intros; simp_all; done) | (intros; simp_all; omega)) ?_
                    refine Exists.intro _ (Exists.intro _ (And.intro (fun hg => StepD.callG errG_stays rfl hG0 (error_fn _ _) rfl rfl rfl) (And.intro (fun hf => rfl) (And.intro rfl (And.intro trivial ?_)))))
                    repeat refine And.intro (by first | (intro hg; exact absurd hg (by decide)) | (intro hg; exact absurd (by simpa using hg) he) | (intro hg; have := hmi he; rw [hsl]; omega) | exact fun h => h | exact fun _ => rfl | (intro h; rw [h]; rfl) | omega | (intros; (try dsimp only [Ty.T, Ty.size]); (try simp only [castL_self, Int.toNat_natCast, Int.toNat_zero, Int.toNat_one, true_and, List.length_append, List.length_set, List.length_drop, List.length_take, List.length_replicate, List.length_cons, List.length_nil, Nat.zero_add, Nat.mul_one]); omega) | decide | (intros; simp_all; done) | (intros; simp_all; omega)) ?_
                    refine hK49 _ _ ?_
                    clear hK49
                    refine AWPD.ret (And.intro (.inl rfl) ?_)
                    -- result 4
                    refine RetD.one ?_
                    refine fitB rfl ?_
                    first | rw [hE.1, hE.2] | rw [(hE0 h5).1, (hE0 h5).2]
                    first | (simp; done) | (simp; omega)
              · try dsimp only [Ty.T] at h5
                try simp only [castL_self] at h5
                try simp only [Int.toNat_natCast] at h5
                try simp only [Int.toNat_zero] at h5
                have hE0 := fun (hb5 : ¬tellE z asks bits = 0) => twin_bits_err (s := s) hb5
                refine AWPD.skip ?_
                refine hK41 _ _ ?_
                clear hK41
                refine AWPD.seq fun K50 hK50 => ?_
                -- region 33
                refine AWPD.keep [0, 1, 2, 3, 10, 15, 16, 19, 23, 24] rfl ?_
                refine AWPD.region tabOK rfl ?_
                refine Exists.intro _ (Exists.intro _ (And.intro (StepD.call (twin_fn _ _ _ _) rfl rfl rfl) (And.intro rfl (And.intro trivial ?_))))
                refine hK50 _ _ ?_
                clear hK50
                refine AWPD.seq fun K51 hK51 => ?_
                -- region 34
                refine AWPD.keep [10, 13, 14, 15, 16, 19, 23, 24] rfl ?_
                refine AWPD.region tabOK rfl ?_
                repeat refine And.intro (by first | (intro hg; exact absurd hg (by decide)) | (intro hg; exact absurd (by simpa using hg) he) | (intro hg; have := hmi he; rw [hsl]; omega) | exact fun h => h | exact fun _ => rfl | (intro h; rw [h]; rfl) | omega | (intros; (try dsimp only [Ty.T, Ty.size]); (try simp only [castL_self, Int.toNat_natCast, Int.toNat_zero, Int.toNat_one, true_and, List.length_append, List.length_set, List.length_drop, List.length_take, List.length_replicate, List.length_cons, List.length_nil, Nat.zero_add, Nat.mul_one]); omega) | decide | (intros; simp_all; done) | (intros; simp_all; omega)) ?_
                refine Exists.intro _ (Exists.intro _ (And.intro (fun hg => StepD.callG errG_stays rfl hG0 (error_fn _ _) rfl rfl rfl) (And.intro (fun hf => rfl) (And.intro rfl (And.intro trivial ?_)))))
                repeat refine And.intro (by first | (intro hg; exact absurd hg (by decide)) | (intro hg; exact absurd (by simpa using hg) he) | (intro hg; have := hmi he; rw [hsl]; omega) | exact fun h => h | exact fun _ => rfl | (intro h; rw [h]; rfl) | omega | (intros; (try dsimp only [Ty.T, Ty.size]); (try simp only [castL_self, Int.toNat_natCast, Int.toNat_zero, Int.toNat_one, true_and, List.length_append, List.length_set, List.length_drop, List.length_take, List.length_replicate, List.length_cons, List.length_nil, Nat.zero_add, Nat.mul_one]); omega) | decide | (intros; simp_all; done) | (intros; simp_all; omega)) ?_
                refine hK51 _ _ ?_
                clear hK51
                refine AWPD.ret (And.intro (.inl rfl) ?_)
                -- result 5
                refine RetD.one ?_
                refine fitB rfl ?_
                first | rw [hE.1, hE.2] | rw [(hE0 h5).1, (hE0 h5).2]
                first | (simp; done) | (simp; omega)
        clear hK17
        refine AWPD.seq fun K52 hK52 => ?_
        -- region 16
        refine AWPD.keep [0, 1, 2, 3, 10, 15, 16, 19] rfl ?_
        refine AWPD.region tabOK rfl ?_
        repeat refine And.intro (by first | (intro hg; exact absurd hg (by decide)) | (intro hg; exact absurd (by simpa using hg) he) | (intro hg; have := hmi he; rw [hsl]; omega) | exact fun h => h | exact fun _ => rfl | (intro h; rw [h]; rfl) | omega | (intros; (try dsimp only [Ty.T, Ty.size]); (try simp only [castL_self, Int.toNat_natCast, Int.toNat_zero, Int.toNat_one, true_and, List.length_append, List.length_set, List.length_drop, List.length_take, List.length_replicate, List.length_cons, List.length_nil, Nat.zero_add, Nat.mul_one]); omega) | decide | (intros; simp_all; done) | (intros; simp_all; omega)) ?_
        refine Exists.intro _ (Exists.intro _ (And.intro (fun hg => StepD.call (rmask_fn bits z (by first | omega | exact absurd (by simpa using hg) he)) rfl rfl rfl) (And.intro (fun hf => rfl) (And.intro rfl (And.intro trivial ?_)))))
        repeat refine And.intro (by first | (intro hg; exact absurd hg (by decide)) | (intro hg; exact absurd (by simpa using hg) he) | (intro hg; have := hmi he; rw [hsl]; omega) | exact fun h => h | exact fun _ => rfl | (intro h; rw [h]; rfl) | omega | (intros; (try dsimp only [Ty.T, Ty.size]); (try simp only [castL_self, Int.toNat_natCast, Int.toNat_zero, Int.toNat_one, true_and, List.length_append, List.length_set, List.length_drop, List.length_take, List.length_replicate, List.length_cons, List.length_nil, Nat.zero_add, Nat.mul_one]); omega) | decide | (intros; simp_all; done) | (intros; simp_all; omega)) ?_
        refine hK52 _ _ ?_
        clear hK52
        first | refine AWPD.cond rfl (fun h2 => ?_) (fun h2 => ?_)
        · try dsimp only [Ty.T] at h2
          try simp only [castL_self] at h2
          try simp only [Int.toNat_natCast] at h2
          try simp only [Int.toNat_zero] at h2
          try (exact absurd (tellE_t h2).1 he; done)
          all_goals
            have hB : (1 : Int) = tellE z asks bits := (tellE_t h2).2.symm
            -- region 17
            refine AWPD.keep [0, 1, 2, 3, 10, 15, 19] rfl ?_
            refine AWPD.region tabOK rfl ?_
            exact tail17 _ _ _ _ _ rfl (⟨by simp, by simp [hrk], by first | (simp [hT, hV, he]; done) | (simp [hT, hV]; done), hB⟩)
        · try dsimp only [Ty.T] at h2
          try simp only [castL_self] at h2
          try simp only [Int.toNat_natCast] at h2
          try simp only [Int.toNat_zero] at h2
          have hB : askE z asks = tellE z asks bits := (tellE_f h2).1.symm
          refine AWPD.skip ?_
          exact tail17 _ _ _ _ _ rfl (⟨by simp, by simp [hrk], by first | (simp [hT, hV, he]; done) | (simp [hT, hV]; done), hB⟩)
    · try dsimp only [Ty.T] at h1
      try simp only [castL_self] at h1
      try simp only [Int.toNat_natCast] at h1
      try simp only [Int.toNat_zero] at h1
      obtain ⟨hT, hm⟩ := tellE_f h1
      have hV := tellV_eq (z := z) (asks := asks) (s := s)
      have hsg := fun (hh : askE z asks = 0) => sumL_get (B := (ofV asks).1) (mask_in (hm hh)).2
      have hmi := fun (hh : askE z asks = 0) => mask_in (hm hh)
      refine AWPD.skip ?_
      refine hK11 _ _ ?_
      clear hK11
      refine AWPD.seq fun K53 hK53 => ?_
      -- region 12
      refine AWPD.keep [0, 1, 2, 3, 9, 10, 12, 15, 16] rfl ?_
      refine AWPD.region tabOK rfl ?_
      repeat refine And.intro (by first | (intro hg; exact absurd hg (by decide)) | (intro hg; exact absurd (by simpa using hg) he) | (intro hg; have := hmi he; rw [hsl]; omega) | exact fun h => h | exact fun _ => rfl | (intro h; rw [h]; rfl) | omega | (intros; (try dsimp only [Ty.T, Ty.size]); (try simp only [castL_self, Int.toNat_natCast, Int.toNat_zero, Int.toNat_one, true_and, List.length_append, List.length_set, List.length_drop, List.length_take, List.length_replicate, List.length_cons, List.length_nil, Nat.zero_add, Nat.mul_one]); omega) | decide | (intros; simp_all; done) | (intros; simp_all; omega)) ?_
      refine hK53 _ _ ?_
      clear hK53
      refine AWPD.seq fun K54 hK54 => ?_
      -- region 13
      first | rw [hsg he] | skip
      refine AWPD.keep [0, 1, 2, 3, 9, 10, 15, 16, 17] rfl ?_
      refine AWPD.region tabOK rfl ?_
      refine Exists.intro _ (Exists.intro _ (And.intro (StepD.call (tells_fn _ _ _) rfl rfl rfl) (And.intro rfl (And.intro trivial ?_))))
      refine hK54 _ _ ?_
      clear hK54
      refine AWPD.seq fun K55 hK55 => ?_
      -- region 14
      refine AWPD.keep [0, 1, 2, 3, 9, 10, 14, 15, 16, 17, 18] rfl ?_
      refine AWPD.region tabOK rfl ?_
      refine Exists.intro _ (Exists.intro _ (And.intro (StepD.callG errG_stays rfl hG0 (error_fn _ _) rfl rfl rfl) (And.intro rfl (And.intro trivial ?_))))
      repeat refine And.intro (by first | (intro hg; exact absurd hg (by decide)) | (intro hg; exact absurd (by simpa using hg) he) | (intro hg; have := hmi he; rw [hsl]; omega) | exact fun h => h | exact fun _ => rfl | (intro h; rw [h]; rfl) | omega | (intros; (try dsimp only [Ty.T, Ty.size]); (try simp only [castL_self, Int.toNat_natCast, Int.toNat_zero, Int.toNat_one, true_and, List.length_append, List.length_set, List.length_drop, List.length_take, List.length_replicate, List.length_cons, List.length_nil, Nat.zero_add, Nat.mul_one]); omega) | decide | (intros; simp_all; done) | (intros; simp_all; omega)) ?_
      refine hK55 _ _ ?_
      clear hK55
      refine AWPD.seq fun K56 hK56 => ?_
      -- region 15
      refine AWPD.keep [0, 1, 2, 3, 9, 10, 15, 19] rfl ?_
      refine AWPD.region tabOK rfl ?_
      refine hK56 _ _ ?_
      clear hK56
      refine AWPD.seq fun K57 hK57 => ?_
      have tail57 : ∀ (fr : DF) (b10 b15 b19 : Bool) (t16 : Int), keepF fr [0, 1, 2, 3, 10, 15, 16, 19] [] = some [(19, .b b19), (16, .i t16), (15, .b b15), (10, .b b10), (3, .i s), (2, .i bits), (1, .sl .int asks), (0, .i z)] → (b10 = true ∧ b15 = true ∧ b19 = true ∧ t16 = tellE z asks bits) → K57 fr [] := by
        intro fr b10 b15 b19 t16 hkf hs
        refine hK57 fr [] (AWPD.keep [0, 1, 2, 3, 10, 15, 16, 19] hkf ?_)
        clear hkf hK57
        obtain ⟨rfl, rfl, rfl, rfl⟩ := hs
        clear h0
        refine AWPD.seq fun K58 hK58 => ?_
        -- region 18
        refine AWPD.keep [0, 1, 2, 3, 10, 15, 16, 19] rfl ?_
        refine AWPD.region tabOK rfl ?_
        refine hK58 _ _ ?_
        clear hK58
        refine AWPD.seq fun K59 hK59 => ?_
        refine AWPD.seq fun K60 hK60 => ?_
        -- region 19
        refine AWPD.keep [0, 1, 2, 3, 10, 15, 16, 19, 20] rfl ?_
        refine AWPD.region tabOK rfl ?_
        refine hK60 _ _ ?_
        clear hK60
        refine AWPD.block ?_
        -- LOOP 0 live [0, 1, 2, 3, 10, 15, 16, 19, 20, 21] changed [20, 21]
        refine AWPD.nilRow 20 3 .int rfl (by decide) ?_
        refine AWPD.loopK (σ := Nat) [0, 1, 2, 3, 10, 15, 16, 19] (fun i base => (20, .ob 0) :: (21, .i (i : Int)) :: base) (fun i => [.row 3 .int (ansL asks bits i)]) (fun n i => n + i = asks.length ∧ (i = 0 ∨ tellE z asks bits = 0)) asks.length 0 [0] rfl rfl (⟨rfl, .inl rfl⟩) (by decide) ⟨⟨rfl, rfl, rfl⟩, trivial⟩ (by repeat' first | exact True.intro | exact rfl | exact ⟨rfl, rfl⟩ | refine And.intro ?_ ?_) fun n0 i hI0 => ?_
        obtain ⟨hn0, hi0⟩ := hI0
        have hall := ansL_len asks bits i
        refine AWPD.seq fun K61 hK61 => ?_
        refine AWPD.seq fun K62 hK62 => ?_
        -- region 20
        refine AWPD.keep [0, 1, 2, 3, 10, 15, 16, 19, 20, 21] rfl ?_
        refine AWPD.region tabOK rfl ?_
        repeat refine And.intro (by first | (intro hg; exact absurd hg (by decide)) | (intro hg; exact absurd (by simpa using hg) he) | (intro hg; have := hmi he; rw [hsl]; omega) | exact fun h => h | exact fun _ => rfl | (intro h; rw [h]; rfl) | omega | (intros; (try dsimp only [Ty.T, Ty.size]); (try simp only [castL_self, Int.toNat_natCast, Int.toNat_zero, Int.toNat_one, true_and, List.length_append, List.length_set, List.length_drop, List.length_take, List.length_replicate, List.length_cons, List.length_nil, Nat.zero_add, Nat.mul_one]); omega) | decide | (intros; simp_all; done) | (intros; simp_all; omega)) ?_
        refine hK62 _ _ ?_
        clear hK62
        first | refine AWPD.condP rfl (fun h3 => ?_) (fun h3 => ?_) | refine AWPD.condN rfl (fun h3 => ?_) (fun h3 => ?_) | refine AWPD.condAP rfl (fun h3 => ?_) (fun h3 => ?_) | refine AWPD.condOP rfl (fun h3 => ?_) (fun h3 => ?_) | refine AWPD.condONN rfl (fun h3 => ?_) (fun h3 => ?_) | refine AWPD.condOPN rfl (fun h3 => ?_) (fun h3 => ?_) | refine AWPD.condA rfl (fun h3 => ?_) (fun h3 => ?_) | refine AWPD.condO rfl (fun h3 => ?_) (fun h3 => ?_) | refine AWPD.cond rfl (fun h3 => ?_) (fun h3 => ?_)
        · try dsimp only [Ty.T] at h3
          try simp only [castL_self] at h3
          try simp only [Int.toNat_natCast] at h3
          try simp only [Int.toNat_zero] at h3
          have hh := tell_ok h3.2
          have gg := ask_ok hh.1
          have ggl := gg.len
          have gb := tell_in h3.2
          have hil : i < asks.length := by omega
          have hai := gg.small hil
          refine AWPD.skip ?_
          refine hK61 _ _ ?_
          clear hK61
          refine AWPD.seq fun K63 hK63 => ?_
          refine AWPD.block ?_
          -- region 22
          refine AWPD.keep [0, 1, 2, 3, 10, 15, 16, 19, 20, 21] rfl ?_
          refine AWPD.region tabOK rfl ?_
          repeat refine And.intro (by first | (intro hg; exact absurd hg (by decide)) | (intro hg; exact absurd (by simpa using hg) he) | (intro hg; have := hmi he; rw [hsl]; omega) | exact fun h => h | exact fun _ => rfl | (intro h; rw [h]; rfl) | omega | (intros; (try dsimp only [Ty.T, Ty.size]); (try simp only [castL_self, Int.toNat_natCast, Int.toNat_zero, Int.toNat_one, true_and, List.length_append, List.length_set, List.length_drop, List.length_take, List.length_replicate, List.length_cons, List.length_nil, Nat.zero_add, Nat.mul_one]); omega) | decide | (intros; simp_all; done) | (intros; simp_all; omega)) ?_
          refine Exists.intro _ (Exists.intro _ (And.intro (StepD.call (odd_fn (asks.getD i 0) bits (by omega) (by omega)) rfl rfl rfl) (And.intro rfl (And.intro trivial ?_))))
          repeat refine And.intro (by first | (intro hg; exact absurd hg (by decide)) | (intro hg; exact absurd (by simpa using hg) he) | (intro hg; have := hmi he; rw [hsl]; omega) | exact fun h => h | exact fun _ => rfl | (intro h; rw [h]; rfl) | omega | (intros; (try dsimp only [Ty.T, Ty.size]); (try simp only [castL_self, Int.toNat_natCast, Int.toNat_zero, Int.toNat_one, true_and, List.length_append, List.length_set, List.length_drop, List.length_take, List.length_replicate, List.length_cons, List.length_nil, Nat.zero_add, Nat.mul_one]); omega) | decide | (intros; simp_all; done) | (intros; simp_all; omega)) ?_
          refine hK63 _ _ ?_
          clear hK63
          -- region 21
          refine AWPD.keep [0, 1, 2, 3, 10, 15, 16, 19, 20, 21] rfl ?_
          refine AWPD.region tabOK rfl ?_
          repeat refine And.intro (by first | (intro hg; exact absurd hg (by decide)) | (intro hg; exact absurd (by simpa using hg) he) | (intro hg; have := hmi he; rw [hsl]; omega) | exact fun h => h | exact fun _ => rfl | (intro h; rw [h]; rfl) | omega | (intros; (try dsimp only [Ty.T, Ty.size]); (try simp only [castL_self, Int.toNat_natCast, Int.toNat_zero, Int.toNat_one, true_and, List.length_append, List.length_set, List.length_drop, List.length_take, List.length_replicate, List.length_cons, List.length_nil, Nat.zero_add, Nat.mul_one]); omega) | decide | (intros; simp_all; done) | (intros; simp_all; omega)) ?_
          refine ⟨n0 - 1, i + 1, [1], by omega, ⟨by omega, .inr h3.2⟩, ⟨by decide, rfl⟩, ⟨⟨rfl, rfl, (by rw [← ansL_app]; rfl)⟩, trivial⟩, ?_⟩
          repeat' first | exact True.intro | exact rfl | exact ⟨rfl, rfl⟩ | refine And.intro ?_ ?_
        · try dsimp only [Ty.T] at h3
          try simp only [castL_self] at h3
          try simp only [Int.toNat_natCast] at h3
          try simp only [Int.toNat_zero] at h3
          have hrow : ansL asks bits i = ansV z asks bits := ans_end hi0 (fun hx => h3 ⟨by omega, hx.2⟩) (by omega)
          have hal := ansV_20 z asks bits
          refine AWPD.exit ?_
          refine hK59 _ _ ?_
          clear hK59
          refine AWPD.seq fun K64 hK64 => ?_
          -- region 23
          refine AWPD.keep [0, 1, 2, 3, 10, 15, 16, 19, 20] rfl ?_
          refine AWPD.region tabOK rfl ?_
          refine Exists.intro _ (Exists.intro _ (And.intro (StepD.call (answers_fn _ _ _) rfl rfl rfl) (And.intro rfl (And.intro trivial ?_))))
          refine hK64 _ _ ?_
          clear hK64
          refine AWPD.seq fun K65 hK65 => ?_
          -- region 24
          refine AWPD.freeze 20 rfl rfl rfl ?_
          rw [hrow]
          refine AWPD.keep [0, 1, 2, 3, 10, 14, 15, 16, 19, 20, 22] rfl ?_
          refine AWPD.region tabOK rfl ?_
          refine Exists.intro _ (Exists.intro _ (And.intro (StepD.callG errG_stays rfl hG0 (error_fn _ _) rfl rfl rfl) (And.intro rfl (And.intro trivial ?_))))
          repeat refine And.intro (by first | (intro hg; exact absurd hg (by decide)) | (intro hg; exact absurd (by simpa using hg) he) | (intro hg; have := hmi he; rw [hsl]; omega) | exact fun h => h | exact fun _ => rfl | (intro h; rw [h]; rfl) | omega | (intros; (try dsimp only [Ty.T, Ty.size]); (try simp only [castL_self, Int.toNat_natCast, Int.toNat_zero, Int.toNat_one, true_and, List.length_append, List.length_set, List.length_drop, List.length_take, List.length_replicate, List.length_cons, List.length_nil, Nat.zero_add, Nat.mul_one]); omega) | decide | (intros; simp_all; done) | (intros; simp_all; omega)) ?_
          refine Exists.intro _ (Exists.intro _ (And.intro (fun hg => StepD.call (ints_fn _ _ (by omega)) rfl rfl rfl) (And.intro (fun hf => rfl) (And.intro rfl (And.intro trivial ?_)))))
          repeat refine And.intro (by first | (intro hg; exact absurd hg (by decide)) | (intro hg; exact absurd (by simpa using hg) he) | (intro hg; have := hmi he; rw [hsl]; omega) | exact fun h => h | exact fun _ => rfl | (intro h; rw [h]; rfl) | omega | (intros; (try dsimp only [Ty.T, Ty.size]); (try simp only [castL_self, Int.toNat_natCast, Int.toNat_zero, Int.toNat_one, true_and, List.length_append, List.length_set, List.length_drop, List.length_take, List.length_replicate, List.length_cons, List.length_nil, Nat.zero_add, Nat.mul_one]); omega) | decide | (intros; simp_all; done) | (intros; simp_all; omega)) ?_
          refine hK65 _ _ ?_
          clear hK65
          refine AWPD.seq fun K66 hK66 => ?_
          refine AWPD.seq fun K67 hK67 => ?_
          -- region 25
          refine AWPD.keep [0, 1, 2, 3, 10, 15, 16, 19, 23] rfl ?_
          refine AWPD.region tabOK rfl ?_
          repeat refine And.intro (by first | (intro hg; exact absurd hg (by decide)) | (intro hg; exact absurd (by simpa using hg) he) | (intro hg; have := hmi he; rw [hsl]; omega) | exact fun h => h | exact fun _ => rfl | (intro h; rw [h]; rfl) | omega | (intros; (try dsimp only [Ty.T, Ty.size]); (try simp only [castL_self, Int.toNat_natCast, Int.toNat_zero, Int.toNat_one, true_and, List.length_append, List.length_set, List.length_drop, List.length_take, List.length_replicate, List.length_cons, List.length_nil, Nat.zero_add, Nat.mul_one]); omega) | decide | (intros; simp_all; done) | (intros; simp_all; omega)) ?_
          refine Exists.intro _ (Exists.intro _ (And.intro (fun hg => StepD.call (rmask_fn s z (by have := (ask_ok (tell_ok (by simpa using hg)).1).n0; omega)) rfl rfl rfl) (And.intro (fun hf => rfl) (And.intro rfl (And.intro trivial ?_)))))
          repeat refine And.intro (by first | (intro hg; exact absurd hg (by decide)) | (intro hg; exact absurd (by simpa using hg) he) | (intro hg; have := hmi he; rw [hsl]; omega) | exact fun h => h | exact fun _ => rfl | (intro h; rw [h]; rfl) | omega | (intros; (try dsimp only [Ty.T, Ty.size]); (try simp only [castL_self, Int.toNat_natCast, Int.toNat_zero, Int.toNat_one, true_and, List.length_append, List.length_set, List.length_drop, List.length_take, List.length_replicate, List.length_cons, List.length_nil, Nat.zero_add, Nat.mul_one]); omega) | decide | (intros; simp_all; done) | (intros; simp_all; omega)) ?_
          refine hK67 _ _ ?_
          clear hK67
          first | refine AWPD.cond rfl (fun h4 => ?_) (fun h4 => ?_)
          · try dsimp only [Ty.T] at h4
            try simp only [castL_self] at h4
            try simp only [Int.toNat_natCast] at h4
            try simp only [Int.toNat_zero] at h4
            have hE : twinE z asks bits s = 1 ∧ twinV z asks bits s = 0 := by
              by_cases hb : tellE z asks bits = 0
              · rw [decide_eq_true hb] at h4
                have h4 : (!maskB s z) = true := h4
                have h9 : twinE z asks bits s = 1 := by unfold twinE; rw [if_pos (tell_ok hb).1, if_neg (fun hx => by rw [hx.2] at h4; cases h4)]
                exact ⟨h9, by unfold twinV; rw [h9]; rfl⟩
              · rw [decide_eq_false hb] at h4; cases h4
            -- region 26
            refine AWPD.keep [0, 1, 2, 3, 10, 15, 19, 23] rfl ?_
            refine AWPD.region tabOK rfl ?_
            refine hK66 _ _ ?_
            clear hK66
            refine AWPD.seq fun K68 hK68 => ?_
            -- region 27
            refine AWPD.keep [0, 1, 2, 3, 10, 15, 16, 19, 23] rfl ?_
            refine AWPD.region tabOK rfl ?_
            refine hK68 _ _ ?_
            clear hK68
            refine AWPD.seq fun K69 hK69 => ?_
            refine AWPD.seq fun K70 hK70 => ?_
            -- region 28
            refine AWPD.keep [0, 1, 2, 3, 10, 15, 16, 19, 23, 24] rfl ?_
            refine AWPD.region tabOK rfl ?_
            refine hK70 _ _ ?_
            clear hK70
            first | refine AWPD.condP rfl (fun h5 => ?_) (fun h5 => ?_) | refine AWPD.condN rfl (fun h5 => ?_) (fun h5 => ?_) | refine AWPD.condAP rfl (fun h5 => ?_) (fun h5 => ?_) | refine AWPD.condOP rfl (fun h5 => ?_) (fun h5 => ?_) | refine AWPD.condONN rfl (fun h5 => ?_) (fun h5 => ?_) | refine AWPD.condOPN rfl (fun h5 => ?_) (fun h5 => ?_) | refine AWPD.condA rfl (fun h5 => ?_) (fun h5 => ?_) | refine AWPD.condO rfl (fun h5 => ?_) (fun h5 => ?_) | refine AWPD.cond rfl (fun h5 => ?_) (fun h5 => ?_)
            · try dsimp only [Ty.T] at h5
              try simp only [castL_self] at h5
              try simp only [Int.toNat_natCast] at h5
              try simp only [Int.toNat_zero] at h5
              try (exact absurd h5 (by decide); done)
              all_goals
                have hb5 : tellE z asks bits = 0 := h5
                obtain ⟨he5, hm5⟩ := tell_ok hb5
                have g5 := ask_ok he5
                have gz5 := g5.n0
                have gb5 := tell_in hb5
                have hs5 := mask_in (hms hb5)
                have hp5 := pow12 (n := z.toNat) (by omega)
                have hgo : twinE z asks bits s = (if (twinO z asks bits s).isSome = true then 0 else 5) := by unfold twinE; rw [if_pos he5, if_pos ⟨hm5, hms hb5⟩]
                refine AWPD.seq fun K71 hK71 => ?_
                -- region 29
                refine AWPD.keep [0, 1, 2, 3, 10, 15, 16, 19, 23] rfl ?_
                refine AWPD.region tabOK rfl ?_
                refine Exists.intro _ (Exists.intro _ (And.intro (StepD.call (twin4_fn z asks bits s g5 gb5 (by omega)) rfl rfl rfl) (And.intro rfl (And.intro trivial ?_))))
                refine hK71 _ _ ?_
                clear hK71
                refine AWPD.seq fun K72 hK72 => ?_
                -- region 30
                refine AWPD.keep [0, 1, 2, 3, 10, 15, 16, 19, 23, 24] rfl ?_
                refine AWPD.region tabOK rfl ?_
                refine hK72 _ _ ?_
                clear hK72
                first | refine AWPD.condP rfl (fun h6 => ?_) (fun h6 => ?_) | refine AWPD.condN rfl (fun h6 => ?_) (fun h6 => ?_) | refine AWPD.condAP rfl (fun h6 => ?_) (fun h6 => ?_) | refine AWPD.condOP rfl (fun h6 => ?_) (fun h6 => ?_) | refine AWPD.condONN rfl (fun h6 => ?_) (fun h6 => ?_) | refine AWPD.condOPN rfl (fun h6 => ?_) (fun h6 => ?_) | refine AWPD.condA rfl (fun h6 => ?_) (fun h6 => ?_) | refine AWPD.condO rfl (fun h6 => ?_) (fun h6 => ?_) | refine AWPD.cond rfl (fun h6 => ?_) (fun h6 => ?_)
                · try dsimp only [Ty.T] at h6
                  try simp only [castL_self] at h6
                  try simp only [Int.toNat_natCast] at h6
                  try simp only [Int.toNat_zero] at h6
                  have hE : twinE z asks bits s = 5 ∧ twinV z asks bits s = 0 := by
                    unfold twinK at h6
                    cases ho : twinO z asks bits s with
                    | none =>
                      have h9 : twinE z asks bits s = 5 := by rw [hgo, ho]; rfl
                      exact ⟨h9, by unfold twinV; rw [h9]; rfl⟩
                    | some x =>
                      rw [ho] at h6
                      simp only at h6
                      omega
                  refine AWPD.seq fun K73 hK73 => ?_
                  -- region 31
                  refine AWPD.keep [0, 1, 2, 3, 10, 15, 19, 23] rfl ?_
                  refine AWPD.region tabOK rfl ?_
                  refine hK73 _ _ ?_
                  clear hK73
                  -- region 32
                  refine AWPD.keep [0, 1, 2, 3, 10, 15, 16, 19, 23] rfl ?_
                  refine AWPD.region tabOK rfl ?_
                  refine hK69 _ _ ?_
                  clear hK69
                  refine AWPD.seq fun K74 hK74 => ?_
                  -- region 33
                  refine AWPD.keep [0, 1, 2, 3, 10, 15, 16, 19, 23, 24] rfl ?_
                  refine AWPD.region tabOK rfl ?_
                  refine Exists.intro _ (Exists.intro _ (And.intro (StepD.call (twin_fn _ _ _ _) rfl rfl rfl) (And.intro rfl (And.intro trivial ?_))))
                  refine hK74 _ _ ?_
                  clear hK74
                  refine AWPD.seq fun K75 hK75 => ?_
                  -- region 34
                  refine AWPD.keep [10, 13, 14, 15, 16, 19, 23, 24] rfl ?_
                  refine AWPD.region tabOK rfl ?_
                  repeat refine And.intro (by first | (intro hg; exact absurd hg (by decide)) | (intro hg; exact absurd (by simpa using hg) he) | (intro hg; have := hmi he; rw [hsl]; omega) | exact fun h => h | exact fun _ => rfl | (intro h; rw [h]; rfl) | omega | (intros; (try dsimp only [Ty.T, Ty.size]); (try simp only [castL_self, Int.toNat_natCast, Int.toNat_zero, Int.toNat_one, true_and, List.length_append, List.length_set, List.length_drop, List.length_take, List.length_replicate, List.length_cons, List.length_nil, Nat.zero_add, Nat.mul_one]); omega) | decide | (intros; simp_all; done) | (intros; simp_all; omega)) ?_
                  refine Exists.intro _ (Exists.intro _ (And.intro (fun hg => StepD.callG errG_stays rfl hG0 (error_fn _ _) rfl rfl rfl) (And.intro (fun hf => rfl) (And.intro rfl (And.intro trivial ?_)))))
                  repeat refine And.intro (by first | (intro hg; exact absurd hg (by decide)) | (intro hg; exact absurd (by simpa using hg) he) | (intro hg; have := hmi he; rw [hsl]; omega) | exact fun h => h | exact fun _ => rfl | (intro h; rw [h]; rfl) | omega | (intros; (try dsimp only [Ty.T, Ty.size]); (try simp only [castL_self, Int.toNat_natCast, Int.toNat_zero, Int.toNat_one, true_and, List.length_append, List.length_set, List.length_drop, List.length_take, List.length_replicate, List.length_cons, List.length_nil, Nat.zero_add, Nat.mul_one]); omega) | decide | (intros; simp_all; done) | (intros; simp_all; omega)) ?_
                  refine hK75 _ _ ?_
                  clear hK75
                  refine AWPD.ret (And.intro (.inl rfl) ?_)
                  -- result 6
                  refine RetD.one ?_
                  refine fitB rfl ?_
                  first | rw [hE.1, hE.2] | rw [(hE0 h5).1, (hE0 h5).2]
                  first | (simp; done) | (simp; omega)
                · try dsimp only [Ty.T] at h6
                  try simp only [castL_self] at h6
                  try simp only [Int.toNat_natCast] at h6
                  try simp only [Int.toNat_zero] at h6
                  have hE : twinE z asks bits s = 0 ∧ twinV z asks bits s = twinK z asks bits s := by
                    unfold twinK at h6 ⊢
                    cases ho : twinO z asks bits s with
                    | none =>
                      rw [ho] at h6
                      simp only at h6
                      omega
                    | some x =>
                      have h9 : twinE z asks bits s = 0 := by rw [hgo, ho]; rfl
                      exact ⟨h9, by unfold twinV; rw [h9, ho]; rfl⟩
                  refine AWPD.skip ?_
                  refine hK69 _ _ ?_
                  clear hK69
                  refine AWPD.seq fun K76 hK76 => ?_
                  -- region 33
                  refine AWPD.keep [0, 1, 2, 3, 10, 15, 16, 19, 23, 24] rfl ?_
                  refine AWPD.region tabOK rfl ?_
                  refine Exists.intro _ (Exists.intro _ (And.intro (StepD.call (twin_fn _ _ _ _) rfl rfl rfl) (And.intro rfl (And.intro trivial ?_))))
                  refine hK76 _ _ ?_
                  clear hK76
                  refine AWPD.seq fun K77 hK77 => ?_
                  -- region 34
                  refine AWPD.keep [10, 13, 14, 15, 16, 19, 23, 24] rfl ?_
                  refine AWPD.region tabOK rfl ?_
                  repeat refine And.intro (by first | (intro hg; exact absurd hg (by decide)) | (intro hg; exact absurd (by simpa using hg) he) | (intro hg; have := hmi he; rw [hsl]; omega) | exact fun h => h | exact fun _ => rfl | (intro h; rw [h]; rfl) | omega | (intros; (try dsimp only [Ty.T, Ty.size]); (try simp only [castL_self, Int.toNat_natCast, Int.toNat_zero, Int.toNat_one, true_and, List.length_append, List.length_set, List.length_drop, List.length_take, List.length_replicate, List.length_cons, List.length_nil, Nat.zero_add, Nat.mul_one]); omega) | decide | (intros; simp_all; done) | (intros; simp_all; omega)) ?_
                  refine Exists.intro _ (Exists.intro _ (And.intro (fun hg => StepD.callG errG_stays rfl hG0 (error_fn _ _) rfl rfl rfl) (And.intro (fun hf => rfl) (And.intro rfl (And.intro trivial ?_)))))
                  repeat refine And.intro (by first | (intro hg; exact absurd hg (by decide)) | (intro hg; exact absurd (by simpa using hg) he) | (intro hg; have := hmi he; rw [hsl]; omega) | exact fun h => h | exact fun _ => rfl | (intro h; rw [h]; rfl) | omega | (intros; (try dsimp only [Ty.T, Ty.size]); (try simp only [castL_self, Int.toNat_natCast, Int.toNat_zero, Int.toNat_one, true_and, List.length_append, List.length_set, List.length_drop, List.length_take, List.length_replicate, List.length_cons, List.length_nil, Nat.zero_add, Nat.mul_one]); omega) | decide | (intros; simp_all; done) | (intros; simp_all; omega)) ?_
                  refine hK77 _ _ ?_
                  clear hK77
                  refine AWPD.ret (And.intro (.inl rfl) ?_)
                  -- result 7
                  refine RetD.one ?_
                  refine fitB rfl ?_
                  first | rw [hE.1, hE.2] | rw [(hE0 h5).1, (hE0 h5).2]
                  first | (simp; done) | (simp; omega)
            · try dsimp only [Ty.T] at h5
              try simp only [castL_self] at h5
              try simp only [Int.toNat_natCast] at h5
              try simp only [Int.toNat_zero] at h5
              have hE0 := fun (hb5 : ¬tellE z asks bits = 0) => twin_bits_err (s := s) hb5
              refine AWPD.skip ?_
              refine hK69 _ _ ?_
              clear hK69
              refine AWPD.seq fun K78 hK78 => ?_
              -- region 33
              refine AWPD.keep [0, 1, 2, 3, 10, 15, 16, 19, 23, 24] rfl ?_
              refine AWPD.region tabOK rfl ?_
              refine Exists.intro _ (Exists.intro _ (And.intro (StepD.call (twin_fn _ _ _ _) rfl rfl rfl) (And.intro rfl (And.intro trivial ?_))))
              refine hK78 _ _ ?_
              clear hK78
              refine AWPD.seq fun K79 hK79 => ?_
              -- region 34
              refine AWPD.keep [10, 13, 14, 15, 16, 19, 23, 24] rfl ?_
              refine AWPD.region tabOK rfl ?_
              repeat refine And.intro (by first | (intro hg; exact absurd hg (by decide)) | (intro hg; exact absurd (by simpa using hg) he) | (intro hg; have := hmi he; rw [hsl]; omega) | exact fun h => h | exact fun _ => rfl | (intro h; rw [h]; rfl) | omega | (intros; (try dsimp only [Ty.T, Ty.size]); (try simp only [castL_self, Int.toNat_natCast, Int.toNat_zero, Int.toNat_one, true_and, List.length_append, List.length_set, List.length_drop, List.length_take, List.length_replicate, List.length_cons, List.length_nil, Nat.zero_add, Nat.mul_one]); omega) | decide | (intros; simp_all; done) | (intros; simp_all; omega)) ?_
              refine Exists.intro _ (Exists.intro _ (And.intro (fun hg => StepD.callG errG_stays rfl hG0 (error_fn _ _) rfl rfl rfl) (And.intro (fun hf => rfl) (And.intro rfl (And.intro trivial ?_)))))
              repeat refine And.intro (by first | (intro hg; exact absurd hg (by decide)) | (intro hg; exact absurd (by simpa using hg) he) | (intro hg; have := hmi he; rw [hsl]; omega) | exact fun h => h | exact fun _ => rfl | (intro h; rw [h]; rfl) | omega | (intros; (try dsimp only [Ty.T, Ty.size]); (try simp only [castL_self, Int.toNat_natCast, Int.toNat_zero, Int.toNat_one, true_and, List.length_append, List.length_set, List.length_drop, List.length_take, List.length_replicate, List.length_cons, List.length_nil, Nat.zero_add, Nat.mul_one]); omega) | decide | (intros; simp_all; done) | (intros; simp_all; omega)) ?_
              refine hK79 _ _ ?_
              clear hK79
              refine AWPD.ret (And.intro (.inl rfl) ?_)
              -- result 8
              refine RetD.one ?_
              refine fitB rfl ?_
              first | rw [hE.1, hE.2] | rw [(hE0 h5).1, (hE0 h5).2]
              first | (simp; done) | (simp; omega)
          · try dsimp only [Ty.T] at h4
            try simp only [castL_self] at h4
            try simp only [Int.toNat_natCast] at h4
            try simp only [Int.toNat_zero] at h4
            have hms : tellE z asks bits = 0 → maskB s z = true := fun hb => by
              rw [decide_eq_true hb] at h4
              have h4 : (!maskB s z) = false := h4
              simpa using h4
            refine AWPD.skip ?_
            refine hK66 _ _ ?_
            clear hK66
            refine AWPD.seq fun K80 hK80 => ?_
            -- region 27
            refine AWPD.keep [0, 1, 2, 3, 10, 15, 16, 19, 23] rfl ?_
            refine AWPD.region tabOK rfl ?_
            refine hK80 _ _ ?_
            clear hK80
            refine AWPD.seq fun K81 hK81 => ?_
            refine AWPD.seq fun K82 hK82 => ?_
            -- region 28
            refine AWPD.keep [0, 1, 2, 3, 10, 15, 16, 19, 23, 24] rfl ?_
            refine AWPD.region tabOK rfl ?_
            refine hK82 _ _ ?_
            clear hK82
            first | refine AWPD.condP rfl (fun h5 => ?_) (fun h5 => ?_) | refine AWPD.condN rfl (fun h5 => ?_) (fun h5 => ?_) | refine AWPD.condAP rfl (fun h5 => ?_) (fun h5 => ?_) | refine AWPD.condOP rfl (fun h5 => ?_) (fun h5 => ?_) | refine AWPD.condONN rfl (fun h5 => ?_) (fun h5 => ?_) | refine AWPD.condOPN rfl (fun h5 => ?_) (fun h5 => ?_) | refine AWPD.condA rfl (fun h5 => ?_) (fun h5 => ?_) | refine AWPD.condO rfl (fun h5 => ?_) (fun h5 => ?_) | refine AWPD.cond rfl (fun h5 => ?_) (fun h5 => ?_)
            · try dsimp only [Ty.T] at h5
              try simp only [castL_self] at h5
              try simp only [Int.toNat_natCast] at h5
              try simp only [Int.toNat_zero] at h5
              try (exact absurd h5 (by decide); done)
              all_goals
                have hb5 : tellE z asks bits = 0 := h5
                obtain ⟨he5, hm5⟩ := tell_ok hb5
                have g5 := ask_ok he5
                have gz5 := g5.n0
                have gb5 := tell_in hb5
                have hs5 := mask_in (hms hb5)
                have hp5 := pow12 (n := z.toNat) (by omega)
                have hgo : twinE z asks bits s = (if (twinO z asks bits s).isSome = true then 0 else 5) := by unfold twinE; rw [if_pos he5, if_pos ⟨hm5, hms hb5⟩]
                refine AWPD.seq fun K83 hK83 => ?_
                -- region 29
                refine AWPD.keep [0, 1, 2, 3, 10, 15, 16, 19, 23] rfl ?_
                refine AWPD.region tabOK rfl ?_
                refine Exists.intro _ (Exists.intro _ (And.intro (StepD.call (twin4_fn z asks bits s g5 gb5 (by omega)) rfl rfl rfl) (And.intro rfl (And.intro trivial ?_))))
                refine hK83 _ _ ?_
                clear hK83
                refine AWPD.seq fun K84 hK84 => ?_
                -- region 30
                refine AWPD.keep [0, 1, 2, 3, 10, 15, 16, 19, 23, 24] rfl ?_
                refine AWPD.region tabOK rfl ?_
                refine hK84 _ _ ?_
                clear hK84
                first | refine AWPD.condP rfl (fun h6 => ?_) (fun h6 => ?_) | refine AWPD.condN rfl (fun h6 => ?_) (fun h6 => ?_) | refine AWPD.condAP rfl (fun h6 => ?_) (fun h6 => ?_) | refine AWPD.condOP rfl (fun h6 => ?_) (fun h6 => ?_) | refine AWPD.condONN rfl (fun h6 => ?_) (fun h6 => ?_) | refine AWPD.condOPN rfl (fun h6 => ?_) (fun h6 => ?_) | refine AWPD.condA rfl (fun h6 => ?_) (fun h6 => ?_) | refine AWPD.condO rfl (fun h6 => ?_) (fun h6 => ?_) | refine AWPD.cond rfl (fun h6 => ?_) (fun h6 => ?_)
                · try dsimp only [Ty.T] at h6
                  try simp only [castL_self] at h6
                  try simp only [Int.toNat_natCast] at h6
                  try simp only [Int.toNat_zero] at h6
                  have hE : twinE z asks bits s = 5 ∧ twinV z asks bits s = 0 := by
                    unfold twinK at h6
                    cases ho : twinO z asks bits s with
                    | none =>
                      have h9 : twinE z asks bits s = 5 := by rw [hgo, ho]; rfl
                      exact ⟨h9, by unfold twinV; rw [h9]; rfl⟩
                    | some x =>
                      rw [ho] at h6
                      simp only at h6
                      omega
                  refine AWPD.seq fun K85 hK85 => ?_
                  -- region 31
                  refine AWPD.keep [0, 1, 2, 3, 10, 15, 19, 23] rfl ?_
                  refine AWPD.region tabOK rfl ?_
                  refine hK85 _ _ ?_
                  clear hK85
                  -- region 32
                  refine AWPD.keep [0, 1, 2, 3, 10, 15, 16, 19, 23] rfl ?_
                  refine AWPD.region tabOK rfl ?_
                  refine hK81 _ _ ?_
                  clear hK81
                  refine AWPD.seq fun K86 hK86 => ?_
                  -- region 33
                  refine AWPD.keep [0, 1, 2, 3, 10, 15, 16, 19, 23, 24] rfl ?_
                  refine AWPD.region tabOK rfl ?_
                  refine Exists.intro _ (Exists.intro _ (And.intro (StepD.call (twin_fn _ _ _ _) rfl rfl rfl) (And.intro rfl (And.intro trivial ?_))))
                  refine hK86 _ _ ?_
                  clear hK86
                  refine AWPD.seq fun K87 hK87 => ?_
                  -- region 34
                  refine AWPD.keep [10, 13, 14, 15, 16, 19, 23, 24] rfl ?_
                  refine AWPD.region tabOK rfl ?_
                  repeat refine And.intro (by first | (intro hg; exact absurd hg (by decide)) | (intro hg; exact absurd (by simpa using hg) he) | (intro hg; have := hmi he; rw [hsl]; omega) | exact fun h => h | exact fun _ => rfl | (intro h; rw [h]; rfl) | omega | (intros; (try dsimp only [Ty.T, Ty.size]); (try simp only [castL_self, Int.toNat_natCast, Int.toNat_zero, Int.toNat_one, true_and, List.length_append, List.length_set, List.length_drop, List.length_take, List.length_replicate, List.length_cons, List.length_nil, Nat.zero_add, Nat.mul_one]); omega) | decide | (intros; simp_all; done) | (intros; simp_all; omega)) ?_
                  refine Exists.intro _ (Exists.intro _ (And.intro (fun hg => StepD.callG errG_stays rfl hG0 (error_fn _ _) rfl rfl rfl) (And.intro (fun hf => rfl) (And.intro rfl (And.intro trivial ?_)))))
                  repeat refine And.intro (by first | (intro hg; exact absurd hg (by decide)) | (intro hg; exact absurd (by simpa using hg) he) | (intro hg; have := hmi he; rw [hsl]; omega) | exact fun h => h | exact fun _ => rfl | (intro h; rw [h]; rfl) | omega | (intros; (try dsimp only [Ty.T, Ty.size]); (try simp only [castL_self, Int.toNat_natCast, Int.toNat_zero, Int.toNat_one, true_and, List.length_append, List.length_set, List.length_drop, List.length_take, List.length_replicate, List.length_cons, List.length_nil, Nat.zero_add, Nat.mul_one]); omega) | decide | (intros; simp_all; done) | (intros; simp_all; omega)) ?_
                  refine hK87 _ _ ?_
                  clear hK87
                  refine AWPD.ret (And.intro (.inl rfl) ?_)
                  -- result 9
                  refine RetD.one ?_
                  refine fitB rfl ?_
                  first | rw [hE.1, hE.2] | rw [(hE0 h5).1, (hE0 h5).2]
                  first | (simp; done) | (simp; omega)
                · try dsimp only [Ty.T] at h6
                  try simp only [castL_self] at h6
                  try simp only [Int.toNat_natCast] at h6
                  try simp only [Int.toNat_zero] at h6
                  have hE : twinE z asks bits s = 0 ∧ twinV z asks bits s = twinK z asks bits s := by
                    unfold twinK at h6 ⊢
                    cases ho : twinO z asks bits s with
                    | none =>
                      rw [ho] at h6
                      simp only at h6
                      omega
                    | some x =>
                      have h9 : twinE z asks bits s = 0 := by rw [hgo, ho]; rfl
                      exact ⟨h9, by unfold twinV; rw [h9, ho]; rfl⟩
                  refine AWPD.skip ?_
                  refine hK81 _ _ ?_
                  clear hK81
                  refine AWPD.seq fun K88 hK88 => ?_
                  -- region 33
                  refine AWPD.keep [0, 1, 2, 3, 10, 15, 16, 19, 23, 24] rfl ?_
                  refine AWPD.region tabOK rfl ?_
                  refine Exists.intro _ (Exists.intro _ (And.intro (StepD.call (twin_fn _ _ _ _) rfl rfl rfl) (And.intro rfl (And.intro trivial ?_))))
                  refine hK88 _ _ ?_
                  clear hK88
                  refine AWPD.seq fun K89 hK89 => ?_
                  -- region 34
                  refine AWPD.keep [10, 13, 14, 15, 16, 19, 23, 24] rfl ?_
                  refine AWPD.region tabOK rfl ?_
                  repeat refine And.intro (by first | (intro hg; exact absurd hg (by decide)) | (intro hg; exact absurd (by simpa using hg) he) | (intro hg; have := hmi he; rw [hsl]; omega) | exact fun h => h | exact fun _ => rfl | (intro h; rw [h]; rfl) | omega | (intros; (try dsimp only [Ty.T, Ty.size]); (try simp only [castL_self, Int.toNat_natCast, Int.toNat_zero, Int.toNat_one, true_and, List.length_append, List.length_set, List.length_drop, List.length_take, List.length_replicate, List.length_cons, List.length_nil, Nat.zero_add, Nat.mul_one]); omega) | decide | (intros; simp_all; done) | (intros; simp_all; omega)) ?_
                  refine Exists.intro _ (Exists.intro _ (And.intro (fun hg => StepD.callG errG_stays rfl hG0 (error_fn _ _) rfl rfl rfl) (And.intro (fun hf => rfl) (And.intro rfl (And.intro trivial ?_)))))
                  repeat refine And.intro (by first | (intro hg; exact absurd hg (by decide)) | (intro hg; exact absurd (by simpa using hg) he) | (intro hg; have := hmi he; rw [hsl]; omega) | exact fun h => h | exact fun _ => rfl | (intro h; rw [h]; rfl) | omega | (intros; (try dsimp only [Ty.T, Ty.size]); (try simp only [castL_self, Int.toNat_natCast, Int.toNat_zero, Int.toNat_one, true_and, List.length_append, List.length_set, List.length_drop, List.length_take, List.length_replicate, List.length_cons, List.length_nil, Nat.zero_add, Nat.mul_one]); omega) | decide | (intros; simp_all; done) | (intros; simp_all; omega)) ?_
                  refine hK89 _ _ ?_
                  clear hK89
                  refine AWPD.ret (And.intro (.inl rfl) ?_)
                  -- result 10
                  refine RetD.one ?_
                  refine fitB rfl ?_
                  first | rw [hE.1, hE.2] | rw [(hE0 h5).1, (hE0 h5).2]
                  first | (simp; done) | (simp; omega)
            · try dsimp only [Ty.T] at h5
              try simp only [castL_self] at h5
              try simp only [Int.toNat_natCast] at h5
              try simp only [Int.toNat_zero] at h5
              have hE0 := fun (hb5 : ¬tellE z asks bits = 0) => twin_bits_err (s := s) hb5
              refine AWPD.skip ?_
              refine hK81 _ _ ?_
              clear hK81
              refine AWPD.seq fun K90 hK90 => ?_
              -- region 33
              refine AWPD.keep [0, 1, 2, 3, 10, 15, 16, 19, 23, 24] rfl ?_
              refine AWPD.region tabOK rfl ?_
              refine Exists.intro _ (Exists.intro _ (And.intro (StepD.call (twin_fn _ _ _ _) rfl rfl rfl) (And.intro rfl (And.intro trivial ?_))))
              refine hK90 _ _ ?_
              clear hK90
              refine AWPD.seq fun K91 hK91 => ?_
              -- region 34
              refine AWPD.keep [10, 13, 14, 15, 16, 19, 23, 24] rfl ?_
              refine AWPD.region tabOK rfl ?_
              repeat refine And.intro (by first | (intro hg; exact absurd hg (by decide)) | (intro hg; exact absurd (by simpa using hg) he) | (intro hg; have := hmi he; rw [hsl]; omega) | exact fun h => h | exact fun _ => rfl | (intro h; rw [h]; rfl) | omega | (intros; (try dsimp only [Ty.T, Ty.size]); (try simp only [castL_self, Int.toNat_natCast, Int.toNat_zero, Int.toNat_one, true_and, List.length_append, List.length_set, List.length_drop, List.length_take, List.length_replicate, List.length_cons, List.length_nil, Nat.zero_add, Nat.mul_one]); omega) | decide | (intros; simp_all; done) | (intros; simp_all; omega)) ?_
              refine Exists.intro _ (Exists.intro _ (And.intro (fun hg => StepD.callG errG_stays rfl hG0 (error_fn _ _) rfl rfl rfl) (And.intro (fun hf => rfl) (And.intro rfl (And.intro trivial ?_)))))
              repeat refine And.intro (by first | (intro hg; exact absurd hg (by decide)) | (intro hg; exact absurd (by simpa using hg) he) | (intro hg; have := hmi he; rw [hsl]; omega) | exact fun h => h | exact fun _ => rfl | (intro h; rw [h]; rfl) | omega | (intros; (try dsimp only [Ty.T, Ty.size]); (try simp only [castL_self, Int.toNat_natCast, Int.toNat_zero, Int.toNat_one, true_and, List.length_append, List.length_set, List.length_drop, List.length_take, List.length_replicate, List.length_cons, List.length_nil, Nat.zero_add, Nat.mul_one]); omega) | decide | (intros; simp_all; done) | (intros; simp_all; omega)) ?_
              refine hK91 _ _ ?_
              clear hK91
              refine AWPD.ret (And.intro (.inl rfl) ?_)
              -- result 11
              refine RetD.one ?_
              refine fitB rfl ?_
              first | rw [hE.1, hE.2] | rw [(hE0 h5).1, (hE0 h5).2]
              first | (simp; done) | (simp; omega)
      clear hK57
      refine AWPD.seq fun K92 hK92 => ?_
      -- region 16
      refine AWPD.keep [0, 1, 2, 3, 10, 15, 16, 19] rfl ?_
      refine AWPD.region tabOK rfl ?_
      repeat refine And.intro (by first | (intro hg; exact absurd hg (by decide)) | (intro hg; exact absurd (by simpa using hg) he) | (intro hg; have := hmi he; rw [hsl]; omega) | exact fun h => h | exact fun _ => rfl | (intro h; rw [h]; rfl) | omega | (intros; (try dsimp only [Ty.T, Ty.size]); (try simp only [castL_self, Int.toNat_natCast, Int.toNat_zero, Int.toNat_one, true_and, List.length_append, List.length_set, List.length_drop, List.length_take, List.length_replicate, List.length_cons, List.length_nil, Nat.zero_add, Nat.mul_one]); omega) | decide | (intros; simp_all; done) | (intros; simp_all; omega)) ?_
      refine Exists.intro _ (Exists.intro _ (And.intro (fun hg => StepD.call (rmask_fn bits z (by first | omega | exact absurd (by simpa using hg) he)) rfl rfl rfl) (And.intro (fun hf => rfl) (And.intro rfl (And.intro trivial ?_)))))
      repeat refine And.intro (by first | (intro hg; exact absurd hg (by decide)) | (intro hg; exact absurd (by simpa using hg) he) | (intro hg; have := hmi he; rw [hsl]; omega) | exact fun h => h | exact fun _ => rfl | (intro h; rw [h]; rfl) | omega | (intros; (try dsimp only [Ty.T, Ty.size]); (try simp only [castL_self, Int.toNat_natCast, Int.toNat_zero, Int.toNat_one, true_and, List.length_append, List.length_set, List.length_drop, List.length_take, List.length_replicate, List.length_cons, List.length_nil, Nat.zero_add, Nat.mul_one]); omega) | decide | (intros; simp_all; done) | (intros; simp_all; omega)) ?_
      refine hK92 _ _ ?_
      clear hK92
      first | refine AWPD.cond rfl (fun h2 => ?_) (fun h2 => ?_)
      · try dsimp only [Ty.T] at h2
        try simp only [castL_self] at h2
        try simp only [Int.toNat_natCast] at h2
        try simp only [Int.toNat_zero] at h2
        try (exact absurd (tellE_t h2).1 he; done)
        all_goals
          have hB : (1 : Int) = tellE z asks bits := (tellE_t h2).2.symm
          -- region 17
          refine AWPD.keep [0, 1, 2, 3, 10, 15, 19] rfl ?_
          refine AWPD.region tabOK rfl ?_
          exact tail57 _ _ _ _ _ rfl (⟨by simp, by simp [hrk], by first | (simp [hT, hV, he]; done) | (simp [hT, hV]; done), hB⟩)
      · try dsimp only [Ty.T] at h2
        try simp only [castL_self] at h2
        try simp only [Int.toNat_natCast] at h2
        try simp only [Int.toNat_zero] at h2
        have hB : askE z asks = tellE z asks bits := (tellE_f h2).1.symm
        refine AWPD.skip ?_
        exact tail57 _ _ _ _ _ rfl (⟨by simp, by simp [hrk], by first | (simp [hT, hV, he]; done) | (simp [hT, hV]; done), hB⟩)
  · try dsimp only [Ty.T] at h0
    try simp only [castL_self] at h0
    try simp only [Int.toNat_natCast] at h0
    try simp only [Int.toNat_zero] at h0
    have he : ¬askE z asks = 0 := h0
    have hrk := rank_none he
    refine AWPD.nilSl 12 .bool rfl (by decide) ?_
    refine AWPD.skip ?_
    refine hK6 _ _ ?_
    clear hK6
    refine AWPD.seq fun K93 hK93 => ?_
    -- region 7
    refine AWPD.keep [0, 1, 2, 3, 9, 10, 11, 12] rfl ?_
    refine AWPD.region tabOK rfl ?_
    refine Exists.intro _ (Exists.intro _ (And.intro (StepD.call (rank_fn _ _) rfl rfl rfl) (And.intro rfl (And.intro trivial ?_))))
    refine hK93 _ _ ?_
    clear hK93
    refine AWPD.seq fun K94 hK94 => ?_
    -- region 8
    refine AWPD.keep [0, 1, 2, 3, 9, 10, 11, 12, 13, 14] rfl ?_
    refine AWPD.region tabOK rfl ?_
    refine Exists.intro _ (Exists.intro _ (And.intro (StepD.callG errG_stays rfl hG0 (error_fn _ _) rfl rfl rfl) (And.intro rfl (And.intro trivial ?_))))
    repeat refine And.intro (by first | (intro hg; exact absurd hg (by decide)) | (intro hg; exact absurd (by simpa using hg) he) | (intro hg; have := hmi he; rw [hsl]; omega) | exact fun h => h | exact fun _ => rfl | (intro h; rw [h]; rfl) | omega | (intros; (try dsimp only [Ty.T, Ty.size]); (try simp only [castL_self, Int.toNat_natCast, Int.toNat_zero, Int.toNat_one, true_and, List.length_append, List.length_set, List.length_drop, List.length_take, List.length_replicate, List.length_cons, List.length_nil, Nat.zero_add, Nat.mul_one]); omega) | decide | (intros; simp_all; done) | (intros; simp_all; omega)) ?_
    refine hK94 _ _ ?_
    clear hK94
    refine AWPD.seq fun K95 hK95 => ?_
    -- region 9
    refine AWPD.keep [0, 1, 2, 3, 9, 10, 12, 15] rfl ?_
    refine AWPD.region tabOK rfl ?_
    refine hK95 _ _ ?_
    clear hK95
    refine AWPD.seq fun K96 hK96 => ?_
    refine AWPD.seq fun K97 hK97 => ?_
    -- region 10
    refine AWPD.keep [0, 1, 2, 3, 9, 10, 12, 15, 16] rfl ?_
    refine AWPD.region tabOK rfl ?_
    repeat refine And.intro (by first | (intro hg; exact absurd hg (by decide)) | (intro hg; exact absurd (by simpa using hg) he) | (intro hg; have := hmi he; rw [hsl]; omega) | exact fun h => h | exact fun _ => rfl | (intro h; rw [h]; rfl) | omega | (intros; (try dsimp only [Ty.T, Ty.size]); (try simp only [castL_self, Int.toNat_natCast, Int.toNat_zero, Int.toNat_one, true_and, List.length_append, List.length_set, List.length_drop, List.length_take, List.length_replicate, List.length_cons, List.length_nil, Nat.zero_add, Nat.mul_one]); omega) | decide | (intros; simp_all; done) | (intros; simp_all; omega)) ?_
    refine Exists.intro _ (Exists.intro _ (And.intro (fun hg => StepD.call (rmask_fn s z (by first | omega | exact absurd (by simpa using hg) he)) rfl rfl rfl) (And.intro (fun hf => rfl) (And.intro rfl (And.intro trivial ?_)))))
    repeat refine And.intro (by first | (intro hg; exact absurd hg (by decide)) | (intro hg; exact absurd (by simpa using hg) he) | (intro hg; have := hmi he; rw [hsl]; omega) | exact fun h => h | exact fun _ => rfl | (intro h; rw [h]; rfl) | omega | (intros; (try dsimp only [Ty.T, Ty.size]); (try simp only [castL_self, Int.toNat_natCast, Int.toNat_zero, Int.toNat_one, true_and, List.length_append, List.length_set, List.length_drop, List.length_take, List.length_replicate, List.length_cons, List.length_nil, Nat.zero_add, Nat.mul_one]); omega) | decide | (intros; simp_all; done) | (intros; simp_all; omega)) ?_
    refine hK97 _ _ ?_
    clear hK97
    first | refine AWPD.cond rfl (fun h1 => ?_) (fun h1 => ?_)
    · try dsimp only [Ty.T] at h1
      try simp only [castL_self] at h1
      try simp only [Int.toNat_natCast] at h1
      try simp only [Int.toNat_zero] at h1
      try (exact absurd (tellE_t h1).1 he; done)
      all_goals
        obtain ⟨he1, hT⟩ := tellE_t h1
        have hV : tellV z asks s = false := by rw [tellV_eq, hT]; rfl
        -- region 11
        refine AWPD.keep [0, 1, 2, 3, 9, 10, 12, 15] rfl ?_
        refine AWPD.region tabOK rfl ?_
        refine hK96 _ _ ?_
        clear hK96
        refine AWPD.seq fun K98 hK98 => ?_
        -- region 12
        refine AWPD.keep [0, 1, 2, 3, 9, 10, 12, 15, 16] rfl ?_
        refine AWPD.region tabOK rfl ?_
        repeat refine And.intro (by first | (intro hg; exact absurd hg (by decide)) | (intro hg; exact absurd (by simpa using hg) he) | (intro hg; have := hmi he; rw [hsl]; omega) | exact fun h => h | exact fun _ => rfl | (intro h; rw [h]; rfl) | omega | (intros; (try dsimp only [Ty.T, Ty.size]); (try simp only [castL_self, Int.toNat_natCast, Int.toNat_zero, Int.toNat_one, true_and, List.length_append, List.length_set, List.length_drop, List.length_take, List.length_replicate, List.length_cons, List.length_nil, Nat.zero_add, Nat.mul_one]); omega) | decide | (intros; simp_all; done) | (intros; simp_all; omega)) ?_
        refine hK98 _ _ ?_
        clear hK98
        refine AWPD.seq fun K99 hK99 => ?_
        -- region 13
        first | rw [hsg he] | skip
        refine AWPD.keep [0, 1, 2, 3, 9, 10, 15, 16, 17] rfl ?_
        refine AWPD.region tabOK rfl ?_
        refine Exists.intro _ (Exists.intro _ (And.intro (StepD.call (tells_fn _ _ _) rfl rfl rfl) (And.intro rfl (And.intro trivial ?_))))
        refine hK99 _ _ ?_
        clear hK99
        refine AWPD.seq fun K100 hK100 => ?_
        -- region 14
        refine AWPD.keep [0, 1, 2, 3, 9, 10, 14, 15, 16, 17, 18] rfl ?_
        refine AWPD.region tabOK rfl ?_
        refine Exists.intro _ (Exists.intro _ (And.intro (StepD.callG errG_stays rfl hG0 (error_fn _ _) rfl rfl rfl) (And.intro rfl (And.intro trivial ?_))))
        repeat refine And.intro (by first | (intro hg; exact absurd hg (by decide)) | (intro hg; exact absurd (by simpa using hg) he) | (intro hg; have := hmi he; rw [hsl]; omega) | exact fun h => h | exact fun _ => rfl | (intro h; rw [h]; rfl) | omega | (intros; (try dsimp only [Ty.T, Ty.size]); (try simp only [castL_self, Int.toNat_natCast, Int.toNat_zero, Int.toNat_one, true_and, List.length_append, List.length_set, List.length_drop, List.length_take, List.length_replicate, List.length_cons, List.length_nil, Nat.zero_add, Nat.mul_one]); omega) | decide | (intros; simp_all; done) | (intros; simp_all; omega)) ?_
        refine hK100 _ _ ?_
        clear hK100
        refine AWPD.seq fun K101 hK101 => ?_
        -- region 15
        refine AWPD.keep [0, 1, 2, 3, 9, 10, 15, 19] rfl ?_
        refine AWPD.region tabOK rfl ?_
        refine hK101 _ _ ?_
        clear hK101
        refine AWPD.seq fun K102 hK102 => ?_
        have tail102 : ∀ (fr : DF) (b10 b15 b19 : Bool) (t16 : Int), keepF fr [0, 1, 2, 3, 10, 15, 16, 19] [] = some [(19, .b b19), (16, .i t16), (15, .b b15), (10, .b b10), (3, .i s), (2, .i bits), (1, .sl .int asks), (0, .i z)] → (b10 = true ∧ b15 = true ∧ b19 = true ∧ t16 = tellE z asks bits) → K102 fr [] := by
          intro fr b10 b15 b19 t16 hkf hs
          refine hK102 fr [] (AWPD.keep [0, 1, 2, 3, 10, 15, 16, 19] hkf ?_)
          clear hkf hK102
          obtain ⟨rfl, rfl, rfl, rfl⟩ := hs
          clear h0
          refine AWPD.seq fun K103 hK103 => ?_
          -- region 18
          refine AWPD.keep [0, 1, 2, 3, 10, 15, 16, 19] rfl ?_
          refine AWPD.region tabOK rfl ?_
          refine hK103 _ _ ?_
          clear hK103
          refine AWPD.seq fun K104 hK104 => ?_
          refine AWPD.seq fun K105 hK105 => ?_
          -- region 19
          refine AWPD.keep [0, 1, 2, 3, 10, 15, 16, 19, 20] rfl ?_
          refine AWPD.region tabOK rfl ?_
          refine hK105 _ _ ?_
          clear hK105
          refine AWPD.block ?_
          -- LOOP 0 live [0, 1, 2, 3, 10, 15, 16, 19, 20, 21] changed [20, 21]
          refine AWPD.nilRow 20 3 .int rfl (by decide) ?_
          refine AWPD.loopK (σ := Nat) [0, 1, 2, 3, 10, 15, 16, 19] (fun i base => (20, .ob 0) :: (21, .i (i : Int)) :: base) (fun i => [.row 3 .int (ansL asks bits i)]) (fun n i => n + i = asks.length ∧ (i = 0 ∨ tellE z asks bits = 0)) asks.length 0 [0] rfl rfl (⟨rfl, .inl rfl⟩) (by decide) ⟨⟨rfl, rfl, rfl⟩, trivial⟩ (by repeat' first | exact True.intro | exact rfl | exact ⟨rfl, rfl⟩ | refine And.intro ?_ ?_) fun n0 i hI0 => ?_
          obtain ⟨hn0, hi0⟩ := hI0
          have hall := ansL_len asks bits i
          refine AWPD.seq fun K106 hK106 => ?_
          refine AWPD.seq fun K107 hK107 => ?_
          -- region 20
          refine AWPD.keep [0, 1, 2, 3, 10, 15, 16, 19, 20, 21] rfl ?_
          refine AWPD.region tabOK rfl ?_
          repeat refine And.intro (by first | (intro hg; exact absurd hg (by decide)) | (intro hg; exact absurd (by simpa using hg) he) | (intro hg; have := hmi he; rw [hsl]; omega) | exact fun h => h | exact fun _ => rfl | (intro h; rw [h]; rfl) | omega | (intros; (try dsimp only [Ty.T, Ty.size]); (try simp only [castL_self, Int.toNat_natCast, Int.toNat_zero, Int.toNat_one, true_and, List.length_append, List.length_set, List.length_drop, List.length_take, List.length_replicate, List.length_cons, List.length_nil, Nat.zero_add, Nat.mul_one]); omega) | decide | (intros; simp_all; done) | (intros; simp_all; omega)) ?_
          refine hK107 _ _ ?_
          clear hK107
          first | refine AWPD.condP rfl (fun h3 => ?_) (fun h3 => ?_) | refine AWPD.condN rfl (fun h3 => ?_) (fun h3 => ?_) | refine AWPD.condAP rfl (fun h3 => ?_) (fun h3 => ?_) | refine AWPD.condOP rfl (fun h3 => ?_) (fun h3 => ?_) | refine AWPD.condONN rfl (fun h3 => ?_) (fun h3 => ?_) | refine AWPD.condOPN rfl (fun h3 => ?_) (fun h3 => ?_) | refine AWPD.condA rfl (fun h3 => ?_) (fun h3 => ?_) | refine AWPD.condO rfl (fun h3 => ?_) (fun h3 => ?_) | refine AWPD.cond rfl (fun h3 => ?_) (fun h3 => ?_)
          · try dsimp only [Ty.T] at h3
            try simp only [castL_self] at h3
            try simp only [Int.toNat_natCast] at h3
            try simp only [Int.toNat_zero] at h3
            have hh := tell_ok h3.2
            have gg := ask_ok hh.1
            have ggl := gg.len
            have gb := tell_in h3.2
            have hil : i < asks.length := by omega
            have hai := gg.small hil
            refine AWPD.skip ?_
            refine hK106 _ _ ?_
            clear hK106
            refine AWPD.seq fun K108 hK108 => ?_
            refine AWPD.block ?_
            -- region 22
            refine AWPD.keep [0, 1, 2, 3, 10, 15, 16, 19, 20, 21] rfl ?_
            refine AWPD.region tabOK rfl ?_
            repeat refine And.intro (by first | (intro hg; exact absurd hg (by decide)) | (intro hg; exact absurd (by simpa using hg) he) | (intro hg; have := hmi he; rw [hsl]; omega) | exact fun h => h | exact fun _ => rfl | (intro h; rw [h]; rfl) | omega | (intros; (try dsimp only [Ty.T, Ty.size]); (try simp only [castL_self, Int.toNat_natCast, Int.toNat_zero, Int.toNat_one, true_and, List.length_append, List.length_set, List.length_drop, List.length_take, List.length_replicate, List.length_cons, List.length_nil, Nat.zero_add, Nat.mul_one]); omega) | decide | (intros; simp_all; done) | (intros; simp_all; omega)) ?_
            refine Exists.intro _ (Exists.intro _ (And.intro (StepD.call (odd_fn (asks.getD i 0) bits (by omega) (by omega)) rfl rfl rfl) (And.intro rfl (And.intro trivial ?_))))
            repeat refine And.intro (by first | (intro hg; exact absurd hg (by decide)) | (intro hg; exact absurd (by simpa using hg) he) | (intro hg; have := hmi he; rw [hsl]; omega) | exact fun h => h | exact fun _ => rfl | (intro h; rw [h]; rfl) | omega | (intros; (try dsimp only [Ty.T, Ty.size]); (try simp only [castL_self, Int.toNat_natCast, Int.toNat_zero, Int.toNat_one, true_and, List.length_append, List.length_set, List.length_drop, List.length_take, List.length_replicate, List.length_cons, List.length_nil, Nat.zero_add, Nat.mul_one]); omega) | decide | (intros; simp_all; done) | (intros; simp_all; omega)) ?_
            refine hK108 _ _ ?_
            clear hK108
            -- region 21
            refine AWPD.keep [0, 1, 2, 3, 10, 15, 16, 19, 20, 21] rfl ?_
            refine AWPD.region tabOK rfl ?_
            repeat refine And.intro (by first | (intro hg; exact absurd hg (by decide)) | (intro hg; exact absurd (by simpa using hg) he) | (intro hg; have := hmi he; rw [hsl]; omega) | exact fun h => h | exact fun _ => rfl | (intro h; rw [h]; rfl) | omega | (intros; (try dsimp only [Ty.T, Ty.size]); (try simp only [castL_self, Int.toNat_natCast, Int.toNat_zero, Int.toNat_one, true_and, List.length_append, List.length_set, List.length_drop, List.length_take, List.length_replicate, List.length_cons, List.length_nil, Nat.zero_add, Nat.mul_one]); omega) | decide | (intros; simp_all; done) | (intros; simp_all; omega)) ?_
            refine ⟨n0 - 1, i + 1, [1], by omega, ⟨by omega, .inr h3.2⟩, ⟨by decide, rfl⟩, ⟨⟨rfl, rfl, (by rw [← ansL_app]; rfl)⟩, trivial⟩, ?_⟩
            repeat' first | exact True.intro | exact rfl | exact ⟨rfl, rfl⟩ | refine And.intro ?_ ?_
          · try dsimp only [Ty.T] at h3
            try simp only [castL_self] at h3
            try simp only [Int.toNat_natCast] at h3
            try simp only [Int.toNat_zero] at h3
            have hrow : ansL asks bits i = ansV z asks bits := ans_end hi0 (fun hx => h3 ⟨by omega, hx.2⟩) (by omega)
            have hal := ansV_20 z asks bits
            refine AWPD.exit ?_
            refine hK104 _ _ ?_
            clear hK104
            refine AWPD.seq fun K109 hK109 => ?_
            -- region 23
            refine AWPD.keep [0, 1, 2, 3, 10, 15, 16, 19, 20] rfl ?_
            refine AWPD.region tabOK rfl ?_
            refine Exists.intro _ (Exists.intro _ (And.intro (StepD.call (answers_fn _ _ _) rfl rfl rfl) (And.intro rfl (And.intro trivial ?_))))
            refine hK109 _ _ ?_
            clear hK109
            refine AWPD.seq fun K110 hK110 => ?_
            -- region 24
            refine AWPD.freeze 20 rfl rfl rfl ?_
            rw [hrow]
            refine AWPD.keep [0, 1, 2, 3, 10, 14, 15, 16, 19, 20, 22] rfl ?_
            refine AWPD.region tabOK rfl ?_
            refine Exists.intro _ (Exists.intro _ (And.intro (StepD.callG errG_stays rfl hG0 (error_fn _ _) rfl rfl rfl) (And.intro rfl (And.intro trivial ?_))))
            repeat refine And.intro (by first | (intro hg; exact absurd hg (by decide)) | (intro hg; exact absurd (by simpa using hg) he) | (intro hg; have := hmi he; rw [hsl]; omega) | exact fun h => h | exact fun _ => rfl | (intro h; rw [h]; rfl) | omega | (intros; (try dsimp only [Ty.T, Ty.size]); (try simp only [castL_self, Int.toNat_natCast, Int.toNat_zero, Int.toNat_one, true_and, List.length_append, List.length_set, List.length_drop, List.length_take, List.length_replicate, List.length_cons, List.length_nil, Nat.zero_add, Nat.mul_one]); omega) | decide | (intros; simp_all; done) | (intros; simp_all; omega)) ?_
            refine Exists.intro _ (Exists.intro _ (And.intro (fun hg => StepD.call (ints_fn _ _ (by omega)) rfl rfl rfl) (And.intro (fun hf => rfl) (And.intro rfl (And.intro trivial ?_)))))
            repeat refine And.intro (by first | (intro hg; exact absurd hg (by decide)) | (intro hg; exact absurd (by simpa using hg) he) | (intro hg; have := hmi he; rw [hsl]; omega) | exact fun h => h | exact fun _ => rfl | (intro h; rw [h]; rfl) | omega | (intros; (try dsimp only [Ty.T, Ty.size]); (try simp only [castL_self, Int.toNat_natCast, Int.toNat_zero, Int.toNat_one, true_and, List.length_append, List.length_set, List.length_drop, List.length_take, List.length_replicate, List.length_cons, List.length_nil, Nat.zero_add, Nat.mul_one]); omega) | decide | (intros; simp_all; done) | (intros; simp_all; omega)) ?_
            refine hK110 _ _ ?_
            clear hK110
            refine AWPD.seq fun K111 hK111 => ?_
            refine AWPD.seq fun K112 hK112 => ?_
            -- region 25
            refine AWPD.keep [0, 1, 2, 3, 10, 15, 16, 19, 23] rfl ?_
            refine AWPD.region tabOK rfl ?_
            repeat refine And.intro (by first | (intro hg; exact absurd hg (by decide)) | (intro hg; exact absurd (by simpa using hg) he) | (intro hg; have := hmi he; rw [hsl]; omega) | exact fun h => h | exact fun _ => rfl | (intro h; rw [h]; rfl) | omega | (intros; (try dsimp only [Ty.T, Ty.size]); (try simp only [castL_self, Int.toNat_natCast, Int.toNat_zero, Int.toNat_one, true_and, List.length_append, List.length_set, List.length_drop, List.length_take, List.length_replicate, List.length_cons, List.length_nil, Nat.zero_add, Nat.mul_one]); omega) | decide | (intros; simp_all; done) | (intros; simp_all; omega)) ?_
            refine Exists.intro _ (Exists.intro _ (And.intro (fun hg => StepD.call (rmask_fn s z (by have := (ask_ok (tell_ok (by simpa using hg)).1).n0; omega)) rfl rfl rfl) (And.intro (fun hf => rfl) (And.intro rfl (And.intro trivial ?_)))))
            repeat refine And.intro (by first | (intro hg; exact absurd hg (by decide)) | (intro hg; exact absurd (by simpa using hg) he) | (intro hg; have := hmi he; rw [hsl]; omega) | exact fun h => h | exact fun _ => rfl | (intro h; rw [h]; rfl) | omega | (intros; (try dsimp only [Ty.T, Ty.size]); (try simp only [castL_self, Int.toNat_natCast, Int.toNat_zero, Int.toNat_one, true_and, List.length_append, List.length_set, List.length_drop, List.length_take, List.length_replicate, List.length_cons, List.length_nil, Nat.zero_add, Nat.mul_one]); omega) | decide | (intros; simp_all; done) | (intros; simp_all; omega)) ?_
            refine hK112 _ _ ?_
            clear hK112
            first | refine AWPD.cond rfl (fun h4 => ?_) (fun h4 => ?_)
            · try dsimp only [Ty.T] at h4
              try simp only [castL_self] at h4
              try simp only [Int.toNat_natCast] at h4
              try simp only [Int.toNat_zero] at h4
              have hE : twinE z asks bits s = 1 ∧ twinV z asks bits s = 0 := by
                by_cases hb : tellE z asks bits = 0
                · rw [decide_eq_true hb] at h4
                  have h4 : (!maskB s z) = true := h4
                  have h9 : twinE z asks bits s = 1 := by unfold twinE; rw [if_pos (tell_ok hb).1, if_neg (fun hx => by rw [hx.2] at h4; cases h4)]
                  exact ⟨h9, by unfold twinV; rw [h9]; rfl⟩
                · rw [decide_eq_false hb] at h4; cases h4
              -- region 26
              refine AWPD.keep [0, 1, 2, 3, 10, 15, 19, 23] rfl ?_
              refine AWPD.region tabOK rfl ?_
              refine hK111 _ _ ?_
              clear hK111
              refine AWPD.seq fun K113 hK113 => ?_
              -- region 27
              refine AWPD.keep [0, 1, 2, 3, 10, 15, 16, 19, 23] rfl ?_
              refine AWPD.region tabOK rfl ?_
              refine hK113 _ _ ?_
              clear hK113
              refine AWPD.seq fun K114 hK114 => ?_
              refine AWPD.seq fun K115 hK115 => ?_
              -- region 28
              refine AWPD.keep [0, 1, 2, 3, 10, 15, 16, 19, 23, 24] rfl ?_
              refine AWPD.region tabOK rfl ?_
              refine hK115 _ _ ?_
              clear hK115
              first | refine AWPD.condP rfl (fun h5 => ?_) (fun h5 => ?_) | refine AWPD.condN rfl (fun h5 => ?_) (fun h5 => ?_) | refine AWPD.condAP rfl (fun h5 => ?_) (fun h5 => ?_) | refine AWPD.condOP rfl (fun h5 => ?_) (fun h5 => ?_) | refine AWPD.condONN rfl (fun h5 => ?_) (fun h5 => ?_) | refine AWPD.condOPN rfl (fun h5 => ?_) (fun h5 => ?_) | refine AWPD.condA rfl (fun h5 => ?_) (fun h5 => ?_) | refine AWPD.condO rfl (fun h5 => ?_) (fun h5 => ?_) | refine AWPD.cond rfl (fun h5 => ?_) (fun h5 => ?_)
              · try dsimp only [Ty.T] at h5
                try simp only [castL_self] at h5
                try simp only [Int.toNat_natCast] at h5
                try simp only [Int.toNat_zero] at h5
                try (exact absurd h5 (by decide); done)
                all_goals
                  have hb5 : tellE z asks bits = 0 := h5
                  obtain ⟨he5, hm5⟩ := tell_ok hb5
                  have g5 := ask_ok he5
                  have gz5 := g5.n0
                  have gb5 := tell_in hb5
                  have hs5 := mask_in (hms hb5)
                  have hp5 := pow12 (n := z.toNat) (by omega)
                  have hgo : twinE z asks bits s = (if (twinO z asks bits s).isSome = true then 0 else 5) := by unfold twinE; rw [if_pos he5, if_pos ⟨hm5, hms hb5⟩]
                  refine AWPD.seq fun K116 hK116 => ?_
                  -- region 29
                  refine AWPD.keep [0, 1, 2, 3, 10, 15, 16, 19, 23] rfl ?_
                  refine AWPD.region tabOK rfl ?_
                  refine Exists.intro _ (Exists.intro _ (And.intro (StepD.call (twin4_fn z asks bits s g5 gb5 (by omega)) rfl rfl rfl) (And.intro rfl (And.intro trivial ?_))))
                  refine hK116 _ _ ?_
                  clear hK116
                  refine AWPD.seq fun K117 hK117 => ?_
                  -- region 30
                  refine AWPD.keep [0, 1, 2, 3, 10, 15, 16, 19, 23, 24] rfl ?_
                  refine AWPD.region tabOK rfl ?_
                  refine hK117 _ _ ?_
                  clear hK117
                  first | refine AWPD.condP rfl (fun h6 => ?_) (fun h6 => ?_) | refine AWPD.condN rfl (fun h6 => ?_) (fun h6 => ?_) | refine AWPD.condAP rfl (fun h6 => ?_) (fun h6 => ?_) | refine AWPD.condOP rfl (fun h6 => ?_) (fun h6 => ?_) | refine AWPD.condONN rfl (fun h6 => ?_) (fun h6 => ?_) | refine AWPD.condOPN rfl (fun h6 => ?_) (fun h6 => ?_) | refine AWPD.condA rfl (fun h6 => ?_) (fun h6 => ?_) | refine AWPD.condO rfl (fun h6 => ?_) (fun h6 => ?_) | refine AWPD.cond rfl (fun h6 => ?_) (fun h6 => ?_)
                  · try dsimp only [Ty.T] at h6
                    try simp only [castL_self] at h6
                    try simp only [Int.toNat_natCast] at h6
                    try simp only [Int.toNat_zero] at h6
                    have hE : twinE z asks bits s = 5 ∧ twinV z asks bits s = 0 := by
                      unfold twinK at h6
                      cases ho : twinO z asks bits s with
                      | none =>
                        have h9 : twinE z asks bits s = 5 := by rw [hgo, ho]; rfl
                        exact ⟨h9, by unfold twinV; rw [h9]; rfl⟩
                      | some x =>
                        rw [ho] at h6
                        simp only at h6
                        omega
                    refine AWPD.seq fun K118 hK118 => ?_
                    -- region 31
                    refine AWPD.keep [0, 1, 2, 3, 10, 15, 19, 23] rfl ?_
                    refine AWPD.region tabOK rfl ?_
                    refine hK118 _ _ ?_
                    clear hK118
                    -- region 32
                    refine AWPD.keep [0, 1, 2, 3, 10, 15, 16, 19, 23] rfl ?_
                    refine AWPD.region tabOK rfl ?_
                    refine hK114 _ _ ?_
                    clear hK114
                    refine AWPD.seq fun K119 hK119 => ?_
                    -- region 33
                    refine AWPD.keep [0, 1, 2, 3, 10, 15, 16, 19, 23, 24] rfl ?_
                    refine AWPD.region tabOK rfl ?_
                    refine Exists.intro _ (Exists.intro _ (And.intro (StepD.call (twin_fn _ _ _ _) rfl rfl rfl) (And.intro rfl (And.intro trivial ?_))))
                    refine hK119 _ _ ?_
                    clear hK119
                    refine AWPD.seq fun K120 hK120 => ?_
                    -- region 34
                    refine AWPD.keep [10, 13, 14, 15, 16, 19, 23, 24] rfl ?_
                    refine AWPD.region tabOK rfl ?_
                    repeat refine And.intro (by first | (intro hg; exact absurd hg (by decide)) | (intro hg; exact absurd (by simpa using hg) he) | (intro hg; have := hmi he; rw [hsl]; omega) | exact fun h => h | exact fun _ => rfl | (intro h; rw [h]; rfl) | omega | (intros; (try dsimp only [Ty.T, Ty.size]); (try simp only [castL_self, Int.toNat_natCast, Int.toNat_zero, Int.toNat_one, true_and, List.length_append, List.length_set, List.length_drop, List.length_take, List.length_replicate, List.length_cons, List.length_nil, Nat.zero_add, Nat.mul_one]); omega) | decide | (intros; simp_all; done) | (intros; simp_all; omega)) ?_
                    refine Exists.intro _ (Exists.intro _ (And.intro (fun hg => StepD.callG errG_stays rfl hG0 (error_fn _ _) rfl rfl rfl) (And.intro (fun hf => rfl) (And.intro rfl (And.intro trivial ?_)))))
                    repeat refine And.intro (by first | (intro hg; exact absurd hg (by decide)) | (intro hg; exact absurd (by simpa using hg) he) | (intro hg; have := hmi he; rw [hsl]; omega) | exact fun h => h | exact fun _ => rfl | (intro h; rw [h]; rfl) | omega | (intros; (try dsimp only [Ty.T, Ty.size]); (try simp only [castL_self, Int.toNat_natCast, Int.toNat_zero, Int.toNat_one, true_and, List.length_append, List.length_set, List.length_drop, List.length_take, List.length_replicate, List.length_cons, List.length_nil, Nat.zero_add, Nat.mul_one]); omega) | decide | (intros; simp_all; done) | (intros; simp_all; omega)) ?_
                    refine hK120 _ _ ?_
                    clear hK120
                    refine AWPD.ret (And.intro (.inl rfl) ?_)
                    -- result 12
                    refine RetD.one ?_
                    refine fitB rfl ?_
                    first | rw [hE.1, hE.2] | rw [(hE0 h5).1, (hE0 h5).2]
                    first | (simp; done) | (simp; omega)
                  · try dsimp only [Ty.T] at h6
                    try simp only [castL_self] at h6
                    try simp only [Int.toNat_natCast] at h6
                    try simp only [Int.toNat_zero] at h6
                    have hE : twinE z asks bits s = 0 ∧ twinV z asks bits s = twinK z asks bits s := by
                      unfold twinK at h6 ⊢
                      cases ho : twinO z asks bits s with
                      | none =>
                        rw [ho] at h6
                        simp only at h6
                        omega
                      | some x =>
                        have h9 : twinE z asks bits s = 0 := by rw [hgo, ho]; rfl
                        exact ⟨h9, by unfold twinV; rw [h9, ho]; rfl⟩
                    refine AWPD.skip ?_
                    refine hK114 _ _ ?_
                    clear hK114
                    refine AWPD.seq fun K121 hK121 => ?_
                    -- region 33
                    refine AWPD.keep [0, 1, 2, 3, 10, 15, 16, 19, 23, 24] rfl ?_
                    refine AWPD.region tabOK rfl ?_
                    refine Exists.intro _ (Exists.intro _ (And.intro (StepD.call (twin_fn _ _ _ _) rfl rfl rfl) (And.intro rfl (And.intro trivial ?_))))
                    refine hK121 _ _ ?_
                    clear hK121
                    refine AWPD.seq fun K122 hK122 => ?_
                    -- region 34
                    refine AWPD.keep [10, 13, 14, 15, 16, 19, 23, 24] rfl ?_
                    refine AWPD.region tabOK rfl ?_
                    repeat refine And.intro (by first | (intro hg; exact absurd hg (by decide)) | (intro hg; exact absurd (by simpa using hg) he) | (intro hg; have := hmi he; rw [hsl]; omega) | exact fun h => h | exact fun _ => rfl | (intro h; rw [h]; rfl) | omega | (intros; (try dsimp only [Ty.T, Ty.size]); (try simp only [castL_self, Int.toNat_natCast, Int.toNat_zero, Int.toNat_one, true_and, List.length_append, List.length_set, List.length_drop, List.length_take, List.length_replicate, List.length_cons, List.length_nil, Nat.zero_add, Nat.mul_one]); omega) | decide | (intros; simp_all; done) | (intros; simp_all; omega)) ?_
                    refine Exists.intro _ (Exists.intro _ (And.intro (fun hg => StepD.callG errG_stays rfl hG0 (error_fn _ _) rfl rfl rfl) (And.intro (fun hf => rfl) (And.intro rfl (And.intro trivial ?_)))))
                    repeat refine And.intro (by first | (intro hg; exact absurd hg (by decide)) | (intro hg; exact absurd (by simpa using hg) he) | (intro hg; have := hmi he; rw [hsl]; omega) | exact fun h => h | exact fun _ => rfl | (intro h; rw [h]; rfl) | omega | (intros; (try dsimp only [Ty.T, Ty.size]); (try simp only [castL_self, Int.toNat_natCast, Int.toNat_zero, Int.toNat_one, true_and, List.length_append, List.length_set, List.length_drop, List.length_take, List.length_replicate, List.length_cons, List.length_nil, Nat.zero_add, Nat.mul_one]); omega) | decide | (intros; simp_all; done) | (intros; simp_all; omega)) ?_
                    refine hK122 _ _ ?_
                    clear hK122
                    refine AWPD.ret (And.intro (.inl rfl) ?_)
                    -- result 13
                    refine RetD.one ?_
                    refine fitB rfl ?_
                    first | rw [hE.1, hE.2] | rw [(hE0 h5).1, (hE0 h5).2]
                    first | (simp; done) | (simp; omega)
              · try dsimp only [Ty.T] at h5
                try simp only [castL_self] at h5
                try simp only [Int.toNat_natCast] at h5
                try simp only [Int.toNat_zero] at h5
                have hE0 := fun (hb5 : ¬tellE z asks bits = 0) => twin_bits_err (s := s) hb5
                refine AWPD.skip ?_
                refine hK114 _ _ ?_
                clear hK114
                refine AWPD.seq fun K123 hK123 => ?_
                -- region 33
                refine AWPD.keep [0, 1, 2, 3, 10, 15, 16, 19, 23, 24] rfl ?_
                refine AWPD.region tabOK rfl ?_
                refine Exists.intro _ (Exists.intro _ (And.intro (StepD.call (twin_fn _ _ _ _) rfl rfl rfl) (And.intro rfl (And.intro trivial ?_))))
                refine hK123 _ _ ?_
                clear hK123
                refine AWPD.seq fun K124 hK124 => ?_
                -- region 34
                refine AWPD.keep [10, 13, 14, 15, 16, 19, 23, 24] rfl ?_
                refine AWPD.region tabOK rfl ?_
                repeat refine And.intro (by first | (intro hg; exact absurd hg (by decide)) | (intro hg; exact absurd (by simpa using hg) he) | (intro hg; have := hmi he; rw [hsl]; omega) | exact fun h => h | exact fun _ => rfl | (intro h; rw [h]; rfl) | omega | (intros; (try dsimp only [Ty.T, Ty.size]); (try simp only [castL_self, Int.toNat_natCast, Int.toNat_zero, Int.toNat_one, true_and, List.length_append, List.length_set, List.length_drop, List.length_take, List.length_replicate, List.length_cons, List.length_nil, Nat.zero_add, Nat.mul_one]); omega) | decide | (intros; simp_all; done) | (intros; simp_all; omega)) ?_
                refine Exists.intro _ (Exists.intro _ (And.intro (fun hg => StepD.callG errG_stays rfl hG0 (error_fn _ _) rfl rfl rfl) (And.intro (fun hf => rfl) (And.intro rfl (And.intro trivial ?_)))))
                repeat refine And.intro (by first | (intro hg; exact absurd hg (by decide)) | (intro hg; exact absurd (by simpa using hg) he) | (intro hg; have := hmi he; rw [hsl]; omega) | exact fun h => h | exact fun _ => rfl | (intro h; rw [h]; rfl) | omega | (intros; (try dsimp only [Ty.T, Ty.size]); (try simp only [castL_self, Int.toNat_natCast, Int.toNat_zero, Int.toNat_one, true_and, List.length_append, List.length_set, List.length_drop, List.length_take, List.length_replicate, List.length_cons, List.length_nil, Nat.zero_add, Nat.mul_one]); omega) | decide | (intros; simp_all; done) | (intros; simp_all; omega)) ?_
                refine hK124 _ _ ?_
                clear hK124
                refine AWPD.ret (And.intro (.inl rfl) ?_)
                -- result 14
                refine RetD.one ?_
                refine fitB rfl ?_
                first | rw [hE.1, hE.2] | rw [(hE0 h5).1, (hE0 h5).2]
                first | (simp; done) | (simp; omega)
            · try dsimp only [Ty.T] at h4
              try simp only [castL_self] at h4
              try simp only [Int.toNat_natCast] at h4
              try simp only [Int.toNat_zero] at h4
              have hms : tellE z asks bits = 0 → maskB s z = true := fun hb => by
                rw [decide_eq_true hb] at h4
                have h4 : (!maskB s z) = false := h4
                simpa using h4
              refine AWPD.skip ?_
              refine hK111 _ _ ?_
              clear hK111
              refine AWPD.seq fun K125 hK125 => ?_
              -- region 27
              refine AWPD.keep [0, 1, 2, 3, 10, 15, 16, 19, 23] rfl ?_
              refine AWPD.region tabOK rfl ?_
              refine hK125 _ _ ?_
              clear hK125
              refine AWPD.seq fun K126 hK126 => ?_
              refine AWPD.seq fun K127 hK127 => ?_
              -- region 28
              refine AWPD.keep [0, 1, 2, 3, 10, 15, 16, 19, 23, 24] rfl ?_
              refine AWPD.region tabOK rfl ?_
              refine hK127 _ _ ?_
              clear hK127
              first | refine AWPD.condP rfl (fun h5 => ?_) (fun h5 => ?_) | refine AWPD.condN rfl (fun h5 => ?_) (fun h5 => ?_) | refine AWPD.condAP rfl (fun h5 => ?_) (fun h5 => ?_) | refine AWPD.condOP rfl (fun h5 => ?_) (fun h5 => ?_) | refine AWPD.condONN rfl (fun h5 => ?_) (fun h5 => ?_) | refine AWPD.condOPN rfl (fun h5 => ?_) (fun h5 => ?_) | refine AWPD.condA rfl (fun h5 => ?_) (fun h5 => ?_) | refine AWPD.condO rfl (fun h5 => ?_) (fun h5 => ?_) | refine AWPD.cond rfl (fun h5 => ?_) (fun h5 => ?_)
              · try dsimp only [Ty.T] at h5
                try simp only [castL_self] at h5
                try simp only [Int.toNat_natCast] at h5
                try simp only [Int.toNat_zero] at h5
                try (exact absurd h5 (by decide); done)
                all_goals
                  have hb5 : tellE z asks bits = 0 := h5
                  obtain ⟨he5, hm5⟩ := tell_ok hb5
                  have g5 := ask_ok he5
                  have gz5 := g5.n0
                  have gb5 := tell_in hb5
                  have hs5 := mask_in (hms hb5)
                  have hp5 := pow12 (n := z.toNat) (by omega)
                  have hgo : twinE z asks bits s = (if (twinO z asks bits s).isSome = true then 0 else 5) := by unfold twinE; rw [if_pos he5, if_pos ⟨hm5, hms hb5⟩]
                  refine AWPD.seq fun K128 hK128 => ?_
                  -- region 29
                  refine AWPD.keep [0, 1, 2, 3, 10, 15, 16, 19, 23] rfl ?_
                  refine AWPD.region tabOK rfl ?_
                  refine Exists.intro _ (Exists.intro _ (And.intro (StepD.call (twin4_fn z asks bits s g5 gb5 (by omega)) rfl rfl rfl) (And.intro rfl (And.intro trivial ?_))))
                  refine hK128 _ _ ?_
                  clear hK128
                  refine AWPD.seq fun K129 hK129 => ?_
                  -- region 30
                  refine AWPD.keep [0, 1, 2, 3, 10, 15, 16, 19, 23, 24] rfl ?_
                  refine AWPD.region tabOK rfl ?_
                  refine hK129 _ _ ?_
                  clear hK129
                  first | refine AWPD.condP rfl (fun h6 => ?_) (fun h6 => ?_) | refine AWPD.condN rfl (fun h6 => ?_) (fun h6 => ?_) | refine AWPD.condAP rfl (fun h6 => ?_) (fun h6 => ?_) | refine AWPD.condOP rfl (fun h6 => ?_) (fun h6 => ?_) | refine AWPD.condONN rfl (fun h6 => ?_) (fun h6 => ?_) | refine AWPD.condOPN rfl (fun h6 => ?_) (fun h6 => ?_) | refine AWPD.condA rfl (fun h6 => ?_) (fun h6 => ?_) | refine AWPD.condO rfl (fun h6 => ?_) (fun h6 => ?_) | refine AWPD.cond rfl (fun h6 => ?_) (fun h6 => ?_)
                  · try dsimp only [Ty.T] at h6
                    try simp only [castL_self] at h6
                    try simp only [Int.toNat_natCast] at h6
                    try simp only [Int.toNat_zero] at h6
                    have hE : twinE z asks bits s = 5 ∧ twinV z asks bits s = 0 := by
                      unfold twinK at h6
                      cases ho : twinO z asks bits s with
                      | none =>
                        have h9 : twinE z asks bits s = 5 := by rw [hgo, ho]; rfl
                        exact ⟨h9, by unfold twinV; rw [h9]; rfl⟩
                      | some x =>
                        rw [ho] at h6
                        simp only at h6
                        omega
                    refine AWPD.seq fun K130 hK130 => ?_
                    -- region 31
                    refine AWPD.keep [0, 1, 2, 3, 10, 15, 19, 23] rfl ?_
                    refine AWPD.region tabOK rfl ?_
                    refine hK130 _ _ ?_
                    clear hK130
                    -- region 32
                    refine AWPD.keep [0, 1, 2, 3, 10, 15, 16, 19, 23] rfl ?_
                    refine AWPD.region tabOK rfl ?_
                    refine hK126 _ _ ?_
                    clear hK126
                    refine AWPD.seq fun K131 hK131 => ?_
                    -- region 33
                    refine AWPD.keep [0, 1, 2, 3, 10, 15, 16, 19, 23, 24] rfl ?_
                    refine AWPD.region tabOK rfl ?_
                    refine Exists.intro _ (Exists.intro _ (And.intro (StepD.call (twin_fn _ _ _ _) rfl rfl rfl) (And.intro rfl (And.intro trivial ?_))))
                    refine hK131 _ _ ?_
                    clear hK131
                    refine AWPD.seq fun K132 hK132 => ?_
                    -- region 34
                    refine AWPD.keep [10, 13, 14, 15, 16, 19, 23, 24] rfl ?_
                    refine AWPD.region tabOK rfl ?_
                    repeat refine And.intro (by first | (intro hg; exact absurd hg (by decide)) | (intro hg; exact absurd (by simpa using hg) he) | (intro hg; have := hmi he; rw [hsl]; omega) | exact fun h => h | exact fun _ => rfl | (intro h; rw [h]; rfl) | omega | (intros; (try dsimp only [Ty.T, Ty.size]); (try simp only [castL_self, Int.toNat_natCast, Int.toNat_zero, Int.toNat_one, true_and, List.length_append, List.length_set, List.length_drop, List.length_take, List.length_replicate, List.length_cons, List.length_nil, Nat.zero_add, Nat.mul_one]); omega) | decide | (intros; simp_all; done) | (intros; simp_all; omega)) ?_
                    refine Exists.intro _ (Exists.intro _ (And.intro (fun hg => StepD.callG errG_stays rfl hG0 (error_fn _ _) rfl rfl rfl) (And.intro (fun hf => rfl) (And.intro rfl (And.intro trivial ?_)))))
                    repeat refine And.intro (by first | (intro hg; exact absurd hg (by decide)) | (intro hg; exact absurd (by simpa using hg) he) | (intro hg; have := hmi he; rw [hsl]; omega) | exact fun h => h | exact fun _ => rfl | (intro h; rw [h]; rfl) | omega | (intros; (try dsimp only [Ty.T, Ty.size]); (try simp only [castL_self, Int.toNat_natCast, Int.toNat_zero, Int.toNat_one, true_and, List.length_append, List.length_set, List.length_drop, List.length_take, List.length_replicate, List.length_cons, List.length_nil, Nat.zero_add, Nat.mul_one]); omega) | decide | (intros; simp_all; done) | (intros; simp_all; omega)) ?_
                    refine hK132 _ _ ?_
                    clear hK132
                    refine AWPD.ret (And.intro (.inl rfl) ?_)
                    -- result 15
                    refine RetD.one ?_
                    refine fitB rfl ?_
                    first | rw [hE.1, hE.2] | rw [(hE0 h5).1, (hE0 h5).2]
                    first | (simp; done) | (simp; omega)
                  · try dsimp only [Ty.T] at h6
                    try simp only [castL_self] at h6
                    try simp only [Int.toNat_natCast] at h6
                    try simp only [Int.toNat_zero] at h6
                    have hE : twinE z asks bits s = 0 ∧ twinV z asks bits s = twinK z asks bits s := by
                      unfold twinK at h6 ⊢
                      cases ho : twinO z asks bits s with
                      | none =>
                        rw [ho] at h6
                        simp only at h6
                        omega
                      | some x =>
                        have h9 : twinE z asks bits s = 0 := by rw [hgo, ho]; rfl
                        exact ⟨h9, by unfold twinV; rw [h9, ho]; rfl⟩
                    refine AWPD.skip ?_
                    refine hK126 _ _ ?_
                    clear hK126
                    refine AWPD.seq fun K133 hK133 => ?_
                    -- region 33
                    refine AWPD.keep [0, 1, 2, 3, 10, 15, 16, 19, 23, 24] rfl ?_
                    refine AWPD.region tabOK rfl ?_
                    refine Exists.intro _ (Exists.intro _ (And.intro (StepD.call (twin_fn _ _ _ _) rfl rfl rfl) (And.intro rfl (And.intro trivial ?_))))
                    refine hK133 _ _ ?_
                    clear hK133
                    refine AWPD.seq fun K134 hK134 => ?_
                    -- region 34
                    refine AWPD.keep [10, 13, 14, 15, 16, 19, 23, 24] rfl ?_
                    refine AWPD.region tabOK rfl ?_
                    repeat refine And.intro (by first | (intro hg; exact absurd hg (by decide)) | (intro hg; exact absurd (by simpa using hg) he) | (intro hg; have := hmi he; rw [hsl]; omega) | exact fun h => h | exact fun _ => rfl | (intro h; rw [h]; rfl) | omega | (intros; (try dsimp only [Ty.T, Ty.size]); (try simp only [castL_self, Int.toNat_natCast, Int.toNat_zero, Int.toNat_one, true_and, List.length_append, List.length_set, List.length_drop, List.length_take, List.length_replicate, List.length_cons, List.length_nil, Nat.zero_add, Nat.mul_one]); omega) | decide | (intros; simp_all; done) | (intros; simp_all; omega)) ?_
                    refine Exists.intro _ (Exists.intro _ (And.intro (fun hg => StepD.callG errG_stays rfl hG0 (error_fn _ _) rfl rfl rfl) (And.intro (fun hf => rfl) (And.intro rfl (And.intro trivial ?_)))))
                    repeat refine And.intro (by first | (intro hg; exact absurd hg (by decide)) | (intro hg; exact absurd (by simpa using hg) he) | (intro hg; have := hmi he; rw [hsl]; omega) | exact fun h => h | exact fun _ => rfl | (intro h; rw [h]; rfl) | omega | (intros; (try dsimp only [Ty.T, Ty.size]); (try simp only [castL_self, Int.toNat_natCast, Int.toNat_zero, Int.toNat_one, true_and, List.length_append, List.length_set, List.length_drop, List.length_take, List.length_replicate, List.length_cons, List.length_nil, Nat.zero_add, Nat.mul_one]); omega) | decide | (intros; simp_all; done) | (intros; simp_all; omega)) ?_
                    refine hK134 _ _ ?_
                    clear hK134
                    refine AWPD.ret (And.intro (.inl rfl) ?_)
                    -- result 16
                    refine RetD.one ?_
                    refine fitB rfl ?_
                    first | rw [hE.1, hE.2] | rw [(hE0 h5).1, (hE0 h5).2]
                    first | (simp; done) | (simp; omega)
              · try dsimp only [Ty.T] at h5
                try simp only [castL_self] at h5
                try simp only [Int.toNat_natCast] at h5
                try simp only [Int.toNat_zero] at h5
                have hE0 := fun (hb5 : ¬tellE z asks bits = 0) => twin_bits_err (s := s) hb5
                refine AWPD.skip ?_
                refine hK126 _ _ ?_
                clear hK126
                refine AWPD.seq fun K135 hK135 => ?_
                -- region 33
                refine AWPD.keep [0, 1, 2, 3, 10, 15, 16, 19, 23, 24] rfl ?_
                refine AWPD.region tabOK rfl ?_
                refine Exists.intro _ (Exists.intro _ (And.intro (StepD.call (twin_fn _ _ _ _) rfl rfl rfl) (And.intro rfl (And.intro trivial ?_))))
                refine hK135 _ _ ?_
                clear hK135
                refine AWPD.seq fun K136 hK136 => ?_
                -- region 34
                refine AWPD.keep [10, 13, 14, 15, 16, 19, 23, 24] rfl ?_
                refine AWPD.region tabOK rfl ?_
                repeat refine And.intro (by first | (intro hg; exact absurd hg (by decide)) | (intro hg; exact absurd (by simpa using hg) he) | (intro hg; have := hmi he; rw [hsl]; omega) | exact fun h => h | exact fun _ => rfl | (intro h; rw [h]; rfl) | omega | (intros; (try dsimp only [Ty.T, Ty.size]); (try simp only [castL_self, Int.toNat_natCast, Int.toNat_zero, Int.toNat_one, true_and, List.length_append, List.length_set, List.length_drop, List.length_take, List.length_replicate, List.length_cons, List.length_nil, Nat.zero_add, Nat.mul_one]); omega) | decide | (intros; simp_all; done) | (intros; simp_all; omega)) ?_
                refine Exists.intro _ (Exists.intro _ (And.intro (fun hg => StepD.callG errG_stays rfl hG0 (error_fn _ _) rfl rfl rfl) (And.intro (fun hf => rfl) (And.intro rfl (And.intro trivial ?_)))))
                repeat refine And.intro (by first | (intro hg; exact absurd hg (by decide)) | (intro hg; exact absurd (by simpa using hg) he) | (intro hg; have := hmi he; rw [hsl]; omega) | exact fun h => h | exact fun _ => rfl | (intro h; rw [h]; rfl) | omega | (intros; (try dsimp only [Ty.T, Ty.size]); (try simp only [castL_self, Int.toNat_natCast, Int.toNat_zero, Int.toNat_one, true_and, List.length_append, List.length_set, List.length_drop, List.length_take, List.length_replicate, List.length_cons, List.length_nil, Nat.zero_add, Nat.mul_one]); omega) | decide | (intros; simp_all; done) | (intros; simp_all; omega)) ?_
                refine hK136 _ _ ?_
                clear hK136
                refine AWPD.ret (And.intro (.inl rfl) ?_)
                -- result 17
                refine RetD.one ?_
                refine fitB rfl ?_
                first | rw [hE.1, hE.2] | rw [(hE0 h5).1, (hE0 h5).2]
                first | (simp; done) | (simp; omega)
        clear hK102
        refine AWPD.seq fun K137 hK137 => ?_
        -- region 16
        refine AWPD.keep [0, 1, 2, 3, 10, 15, 16, 19] rfl ?_
        refine AWPD.region tabOK rfl ?_
        repeat refine And.intro (by first | (intro hg; exact absurd hg (by decide)) | (intro hg; exact absurd (by simpa using hg) he) | (intro hg; have := hmi he; rw [hsl]; omega) | exact fun h => h | exact fun _ => rfl | (intro h; rw [h]; rfl) | omega | (intros; (try dsimp only [Ty.T, Ty.size]); (try simp only [castL_self, Int.toNat_natCast, Int.toNat_zero, Int.toNat_one, true_and, List.length_append, List.length_set, List.length_drop, List.length_take, List.length_replicate, List.length_cons, List.length_nil, Nat.zero_add, Nat.mul_one]); omega) | decide | (intros; simp_all; done) | (intros; simp_all; omega)) ?_
        refine Exists.intro _ (Exists.intro _ (And.intro (fun hg => StepD.call (rmask_fn bits z (by first | omega | exact absurd (by simpa using hg) he)) rfl rfl rfl) (And.intro (fun hf => rfl) (And.intro rfl (And.intro trivial ?_)))))
        repeat refine And.intro (by first | (intro hg; exact absurd hg (by decide)) | (intro hg; exact absurd (by simpa using hg) he) | (intro hg; have := hmi he; rw [hsl]; omega) | exact fun h => h | exact fun _ => rfl | (intro h; rw [h]; rfl) | omega | (intros; (try dsimp only [Ty.T, Ty.size]); (try simp only [castL_self, Int.toNat_natCast, Int.toNat_zero, Int.toNat_one, true_and, List.length_append, List.length_set, List.length_drop, List.length_take, List.length_replicate, List.length_cons, List.length_nil, Nat.zero_add, Nat.mul_one]); omega) | decide | (intros; simp_all; done) | (intros; simp_all; omega)) ?_
        refine hK137 _ _ ?_
        clear hK137
        first | refine AWPD.cond rfl (fun h2 => ?_) (fun h2 => ?_)
        · try dsimp only [Ty.T] at h2
          try simp only [castL_self] at h2
          try simp only [Int.toNat_natCast] at h2
          try simp only [Int.toNat_zero] at h2
          try (exact absurd (tellE_t h2).1 he; done)
          all_goals
            have hB : (1 : Int) = tellE z asks bits := (tellE_t h2).2.symm
            -- region 17
            refine AWPD.keep [0, 1, 2, 3, 10, 15, 19] rfl ?_
            refine AWPD.region tabOK rfl ?_
            exact tail102 _ _ _ _ _ rfl (⟨by simp, by simp [hrk], by first | (simp [hT, hV, he]; done) | (simp [hT, hV]; done), hB⟩)
        · try dsimp only [Ty.T] at h2
          try simp only [castL_self] at h2
          try simp only [Int.toNat_natCast] at h2
          try simp only [Int.toNat_zero] at h2
          have hB : askE z asks = tellE z asks bits := (tellE_f h2).1.symm
          refine AWPD.skip ?_
          exact tail102 _ _ _ _ _ rfl (⟨by simp, by simp [hrk], by first | (simp [hT, hV, he]; done) | (simp [hT, hV]; done), hB⟩)
    · try dsimp only [Ty.T] at h1
      try simp only [castL_self] at h1
      try simp only [Int.toNat_natCast] at h1
      try simp only [Int.toNat_zero] at h1
      obtain ⟨hT, hm⟩ := tellE_f h1
      have hV := tellV_eq (z := z) (asks := asks) (s := s)
      have hsg := fun (hh : askE z asks = 0) => sumL_get (B := (ofV asks).1) (mask_in (hm hh)).2
      have hmi := fun (hh : askE z asks = 0) => mask_in (hm hh)
      refine AWPD.skip ?_
      refine hK96 _ _ ?_
      clear hK96
      refine AWPD.seq fun K138 hK138 => ?_
      -- region 12
      refine AWPD.keep [0, 1, 2, 3, 9, 10, 12, 15, 16] rfl ?_
      refine AWPD.region tabOK rfl ?_
      repeat refine And.intro (by first | (intro hg; exact absurd hg (by decide)) | (intro hg; exact absurd (by simpa using hg) he) | (intro hg; have := hmi he; rw [hsl]; omega) | exact fun h => h | exact fun _ => rfl | (intro h; rw [h]; rfl) | omega | (intros; (try dsimp only [Ty.T, Ty.size]); (try simp only [castL_self, Int.toNat_natCast, Int.toNat_zero, Int.toNat_one, true_and, List.length_append, List.length_set, List.length_drop, List.length_take, List.length_replicate, List.length_cons, List.length_nil, Nat.zero_add, Nat.mul_one]); omega) | decide | (intros; simp_all; done) | (intros; simp_all; omega)) ?_
      refine hK138 _ _ ?_
      clear hK138
      refine AWPD.seq fun K139 hK139 => ?_
      -- region 13
      first | rw [hsg he] | skip
      refine AWPD.keep [0, 1, 2, 3, 9, 10, 15, 16, 17] rfl ?_
      refine AWPD.region tabOK rfl ?_
      refine Exists.intro _ (Exists.intro _ (And.intro (StepD.call (tells_fn _ _ _) rfl rfl rfl) (And.intro rfl (And.intro trivial ?_))))
      refine hK139 _ _ ?_
      clear hK139
      refine AWPD.seq fun K140 hK140 => ?_
      -- region 14
      refine AWPD.keep [0, 1, 2, 3, 9, 10, 14, 15, 16, 17, 18] rfl ?_
      refine AWPD.region tabOK rfl ?_
      refine Exists.intro _ (Exists.intro _ (And.intro (StepD.callG errG_stays rfl hG0 (error_fn _ _) rfl rfl rfl) (And.intro rfl (And.intro trivial ?_))))
      repeat refine And.intro (by first | (intro hg; exact absurd hg (by decide)) | (intro hg; exact absurd (by simpa using hg) he) | (intro hg; have := hmi he; rw [hsl]; omega) | exact fun h => h | exact fun _ => rfl | (intro h; rw [h]; rfl) | omega | (intros; (try dsimp only [Ty.T, Ty.size]); (try simp only [castL_self, Int.toNat_natCast, Int.toNat_zero, Int.toNat_one, true_and, List.length_append, List.length_set, List.length_drop, List.length_take, List.length_replicate, List.length_cons, List.length_nil, Nat.zero_add, Nat.mul_one]); omega) | decide | (intros; simp_all; done) | (intros; simp_all; omega)) ?_
      refine hK140 _ _ ?_
      clear hK140
      refine AWPD.seq fun K141 hK141 => ?_
      -- region 15
      refine AWPD.keep [0, 1, 2, 3, 9, 10, 15, 19] rfl ?_
      refine AWPD.region tabOK rfl ?_
      refine hK141 _ _ ?_
      clear hK141
      refine AWPD.seq fun K142 hK142 => ?_
      have tail142 : ∀ (fr : DF) (b10 b15 b19 : Bool) (t16 : Int), keepF fr [0, 1, 2, 3, 10, 15, 16, 19] [] = some [(19, .b b19), (16, .i t16), (15, .b b15), (10, .b b10), (3, .i s), (2, .i bits), (1, .sl .int asks), (0, .i z)] → (b10 = true ∧ b15 = true ∧ b19 = true ∧ t16 = tellE z asks bits) → K142 fr [] := by
        intro fr b10 b15 b19 t16 hkf hs
        refine hK142 fr [] (AWPD.keep [0, 1, 2, 3, 10, 15, 16, 19] hkf ?_)
        clear hkf hK142
        obtain ⟨rfl, rfl, rfl, rfl⟩ := hs
        clear h0
        refine AWPD.seq fun K143 hK143 => ?_
        -- region 18
        refine AWPD.keep [0, 1, 2, 3, 10, 15, 16, 19] rfl ?_
        refine AWPD.region tabOK rfl ?_
        refine hK143 _ _ ?_
        clear hK143
        refine AWPD.seq fun K144 hK144 => ?_
        refine AWPD.seq fun K145 hK145 => ?_
        -- region 19
        refine AWPD.keep [0, 1, 2, 3, 10, 15, 16, 19, 20] rfl ?_
        refine AWPD.region tabOK rfl ?_
        refine hK145 _ _ ?_
        clear hK145
        refine AWPD.block ?_
        -- LOOP 0 live [0, 1, 2, 3, 10, 15, 16, 19, 20, 21] changed [20, 21]
        refine AWPD.nilRow 20 3 .int rfl (by decide) ?_
        refine AWPD.loopK (σ := Nat) [0, 1, 2, 3, 10, 15, 16, 19] (fun i base => (20, .ob 0) :: (21, .i (i : Int)) :: base) (fun i => [.row 3 .int (ansL asks bits i)]) (fun n i => n + i = asks.length ∧ (i = 0 ∨ tellE z asks bits = 0)) asks.length 0 [0] rfl rfl (⟨rfl, .inl rfl⟩) (by decide) ⟨⟨rfl, rfl, rfl⟩, trivial⟩ (by repeat' first | exact True.intro | exact rfl | exact ⟨rfl, rfl⟩ | refine And.intro ?_ ?_) fun n0 i hI0 => ?_
        obtain ⟨hn0, hi0⟩ := hI0
        have hall := ansL_len asks bits i
        refine AWPD.seq fun K146 hK146 => ?_
        refine AWPD.seq fun K147 hK147 => ?_
        -- region 20
        refine AWPD.keep [0, 1, 2, 3, 10, 15, 16, 19, 20, 21] rfl ?_
        refine AWPD.region tabOK rfl ?_
        repeat refine And.intro (by first | (intro hg; exact absurd hg (by decide)) | (intro hg; exact absurd (by simpa using hg) he) | (intro hg; have := hmi he; rw [hsl]; omega) | exact fun h => h | exact fun _ => rfl | (intro h; rw [h]; rfl) | omega | (intros; (try dsimp only [Ty.T, Ty.size]); (try simp only [castL_self, Int.toNat_natCast, Int.toNat_zero, Int.toNat_one, true_and, List.length_append, List.length_set, List.length_drop, List.length_take, List.length_replicate, List.length_cons, List.length_nil, Nat.zero_add, Nat.mul_one]); omega) | decide | (intros; simp_all; done) | (intros; simp_all; omega)) ?_
        refine hK147 _ _ ?_
        clear hK147
        first | refine AWPD.condP rfl (fun h3 => ?_) (fun h3 => ?_) | refine AWPD.condN rfl (fun h3 => ?_) (fun h3 => ?_) | refine AWPD.condAP rfl (fun h3 => ?_) (fun h3 => ?_) | refine AWPD.condOP rfl (fun h3 => ?_) (fun h3 => ?_) | refine AWPD.condONN rfl (fun h3 => ?_) (fun h3 => ?_) | refine AWPD.condOPN rfl (fun h3 => ?_) (fun h3 => ?_) | refine AWPD.condA rfl (fun h3 => ?_) (fun h3 => ?_) | refine AWPD.condO rfl (fun h3 => ?_) (fun h3 => ?_) | refine AWPD.cond rfl (fun h3 => ?_) (fun h3 => ?_)
        · try dsimp only [Ty.T] at h3
          try simp only [castL_self] at h3
          try simp only [Int.toNat_natCast] at h3
          try simp only [Int.toNat_zero] at h3
          have hh := tell_ok h3.2
          have gg := ask_ok hh.1
          have ggl := gg.len
          have gb := tell_in h3.2
          have hil : i < asks.length := by omega
          have hai := gg.small hil
          refine AWPD.skip ?_
          refine hK146 _ _ ?_
          clear hK146
          refine AWPD.seq fun K148 hK148 => ?_
          refine AWPD.block ?_
          -- region 22
          refine AWPD.keep [0, 1, 2, 3, 10, 15, 16, 19, 20, 21] rfl ?_
          refine AWPD.region tabOK rfl ?_
          repeat refine And.intro (by first | (intro hg; exact absurd hg (by decide)) | (intro hg; exact absurd (by simpa using hg) he) | (intro hg; have := hmi he; rw [hsl]; omega) | exact fun h => h | exact fun _ => rfl | (intro h; rw [h]; rfl) | omega | (intros; (try dsimp only [Ty.T, Ty.size]); (try simp only [castL_self, Int.toNat_natCast, Int.toNat_zero, Int.toNat_one, true_and, List.length_append, List.length_set, List.length_drop, List.length_take, List.length_replicate, List.length_cons, List.length_nil, Nat.zero_add, Nat.mul_one]); omega) | decide | (intros; simp_all; done) | (intros; simp_all; omega)) ?_
          refine Exists.intro _ (Exists.intro _ (And.intro (StepD.call (odd_fn (asks.getD i 0) bits (by omega) (by omega)) rfl rfl rfl) (And.intro rfl (And.intro trivial ?_))))
          repeat refine And.intro (by first | (intro hg; exact absurd hg (by decide)) | (intro hg; exact absurd (by simpa using hg) he) | (intro hg; have := hmi he; rw [hsl]; omega) | exact fun h => h | exact fun _ => rfl | (intro h; rw [h]; rfl) | omega | (intros; (try dsimp only [Ty.T, Ty.size]); (try simp only [castL_self, Int.toNat_natCast, Int.toNat_zero, Int.toNat_one, true_and, List.length_append, List.length_set, List.length_drop, List.length_take, List.length_replicate, List.length_cons, List.length_nil, Nat.zero_add, Nat.mul_one]); omega) | decide | (intros; simp_all; done) | (intros; simp_all; omega)) ?_
          refine hK148 _ _ ?_
          clear hK148
          -- region 21
          refine AWPD.keep [0, 1, 2, 3, 10, 15, 16, 19, 20, 21] rfl ?_
          refine AWPD.region tabOK rfl ?_
          repeat refine And.intro (by first | (intro hg; exact absurd hg (by decide)) | (intro hg; exact absurd (by simpa using hg) he) | (intro hg; have := hmi he; rw [hsl]; omega) | exact fun h => h | exact fun _ => rfl | (intro h; rw [h]; rfl) | omega | (intros; (try dsimp only [Ty.T, Ty.size]); (try simp only [castL_self, Int.toNat_natCast, Int.toNat_zero, Int.toNat_one, true_and, List.length_append, List.length_set, List.length_drop, List.length_take, List.length_replicate, List.length_cons, List.length_nil, Nat.zero_add, Nat.mul_one]); omega) | decide | (intros; simp_all; done) | (intros; simp_all; omega)) ?_
          refine ⟨n0 - 1, i + 1, [1], by omega, ⟨by omega, .inr h3.2⟩, ⟨by decide, rfl⟩, ⟨⟨rfl, rfl, (by rw [← ansL_app]; rfl)⟩, trivial⟩, ?_⟩
          repeat' first | exact True.intro | exact rfl | exact ⟨rfl, rfl⟩ | refine And.intro ?_ ?_
        · try dsimp only [Ty.T] at h3
          try simp only [castL_self] at h3
          try simp only [Int.toNat_natCast] at h3
          try simp only [Int.toNat_zero] at h3
          have hrow : ansL asks bits i = ansV z asks bits := ans_end hi0 (fun hx => h3 ⟨by omega, hx.2⟩) (by omega)
          have hal := ansV_20 z asks bits
          refine AWPD.exit ?_
          refine hK144 _ _ ?_
          clear hK144
          refine AWPD.seq fun K149 hK149 => ?_
          -- region 23
          refine AWPD.keep [0, 1, 2, 3, 10, 15, 16, 19, 20] rfl ?_
          refine AWPD.region tabOK rfl ?_
          refine Exists.intro _ (Exists.intro _ (And.intro (StepD.call (answers_fn _ _ _) rfl rfl rfl) (And.intro rfl (And.intro trivial ?_))))
          refine hK149 _ _ ?_
          clear hK149
          refine AWPD.seq fun K150 hK150 => ?_
          -- region 24
          refine AWPD.freeze 20 rfl rfl rfl ?_
          rw [hrow]
          refine AWPD.keep [0, 1, 2, 3, 10, 14, 15, 16, 19, 20, 22] rfl ?_
          refine AWPD.region tabOK rfl ?_
          refine Exists.intro _ (Exists.intro _ (And.intro (StepD.callG errG_stays rfl hG0 (error_fn _ _) rfl rfl rfl) (And.intro rfl (And.intro trivial ?_))))
          repeat refine And.intro (by first | (intro hg; exact absurd hg (by decide)) | (intro hg; exact absurd (by simpa using hg) he) | (intro hg; have := hmi he; rw [hsl]; omega) | exact fun h => h | exact fun _ => rfl | (intro h; rw [h]; rfl) | omega | (intros; (try dsimp only [Ty.T, Ty.size]); (try simp only [castL_self, Int.toNat_natCast, Int.toNat_zero, Int.toNat_one, true_and, List.length_append, List.length_set, List.length_drop, List.length_take, List.length_replicate, List.length_cons, List.length_nil, Nat.zero_add, Nat.mul_one]); omega) | decide | (intros; simp_all; done) | (intros; simp_all; omega)) ?_
          refine Exists.intro _ (Exists.intro _ (And.intro (fun hg => StepD.call (ints_fn _ _ (by omega)) rfl rfl rfl) (And.intro (fun hf => rfl) (And.intro rfl (And.intro trivial ?_)))))
          repeat refine And.intro (by first | (intro hg; exact absurd hg (by decide)) | (intro hg; exact absurd (by simpa using hg) he) | (intro hg; have := hmi he; rw [hsl]; omega) | exact fun h => h | exact fun _ => rfl | (intro h; rw [h]; rfl) | omega | (intros; (try dsimp only [Ty.T, Ty.size]); (try simp only [castL_self, Int.toNat_natCast, Int.toNat_zero, Int.toNat_one, true_and, List.length_append, List.length_set, List.length_drop, List.length_take, List.length_replicate, List.length_cons, List.length_nil, Nat.zero_add, Nat.mul_one]); omega) | decide | (intros; simp_all; done) | (intros; simp_all; omega)) ?_
          refine hK150 _ _ ?_
          clear hK150
          refine AWPD.seq fun K151 hK151 => ?_
          refine AWPD.seq fun K152 hK152 => ?_
          -- region 25
          refine AWPD.keep [0, 1, 2, 3, 10, 15, 16, 19, 23] rfl ?_
          refine AWPD.region tabOK rfl ?_
          repeat refine And.intro (by first | (intro hg; exact absurd hg (by decide)) | (intro hg; exact absurd (by simpa using hg) he) | (intro hg; have := hmi he; rw [hsl]; omega) | exact fun h => h | exact fun _ => rfl | (intro h; rw [h]; rfl) | omega | (intros; (try dsimp only [Ty.T, Ty.size]); (try simp only [castL_self, Int.toNat_natCast, Int.toNat_zero, Int.toNat_one, true_and, List.length_append, List.length_set, List.length_drop, List.length_take, List.length_replicate, List.length_cons, List.length_nil, Nat.zero_add, Nat.mul_one]); omega) | decide | (intros; simp_all; done) | (intros; simp_all; omega)) ?_
          refine Exists.intro _ (Exists.intro _ (And.intro (fun hg => StepD.call (rmask_fn s z (by have := (ask_ok (tell_ok (by simpa using hg)).1).n0; omega)) rfl rfl rfl) (And.intro (fun hf => rfl) (And.intro rfl (And.intro trivial ?_)))))
          repeat refine And.intro (by first | (intro hg; exact absurd hg (by decide)) | (intro hg; exact absurd (by simpa using hg) he) | (intro hg; have := hmi he; rw [hsl]; omega) | exact fun h => h | exact fun _ => rfl | (intro h; rw [h]; rfl) | omega | (intros; (try dsimp only [Ty.T, Ty.size]); (try simp only [castL_self, Int.toNat_natCast, Int.toNat_zero, Int.toNat_one, true_and, List.length_append, List.length_set, List.length_drop, List.length_take, List.length_replicate, List.length_cons, List.length_nil, Nat.zero_add, Nat.mul_one]); omega) | decide | (intros; simp_all; done) | (intros; simp_all; omega)) ?_
          refine hK152 _ _ ?_
          clear hK152
          first | refine AWPD.cond rfl (fun h4 => ?_) (fun h4 => ?_)
          · try dsimp only [Ty.T] at h4
            try simp only [castL_self] at h4
            try simp only [Int.toNat_natCast] at h4
            try simp only [Int.toNat_zero] at h4
            have hE : twinE z asks bits s = 1 ∧ twinV z asks bits s = 0 := by
              by_cases hb : tellE z asks bits = 0
              · rw [decide_eq_true hb] at h4
                have h4 : (!maskB s z) = true := h4
                have h9 : twinE z asks bits s = 1 := by unfold twinE; rw [if_pos (tell_ok hb).1, if_neg (fun hx => by rw [hx.2] at h4; cases h4)]
                exact ⟨h9, by unfold twinV; rw [h9]; rfl⟩
              · rw [decide_eq_false hb] at h4; cases h4
            -- region 26
            refine AWPD.keep [0, 1, 2, 3, 10, 15, 19, 23] rfl ?_
            refine AWPD.region tabOK rfl ?_
            refine hK151 _ _ ?_
            clear hK151
            refine AWPD.seq fun K153 hK153 => ?_
            -- region 27
            refine AWPD.keep [0, 1, 2, 3, 10, 15, 16, 19, 23] rfl ?_
            refine AWPD.region tabOK rfl ?_
            refine hK153 _ _ ?_
            clear hK153
            refine AWPD.seq fun K154 hK154 => ?_
            refine AWPD.seq fun K155 hK155 => ?_
            -- region 28
            refine AWPD.keep [0, 1, 2, 3, 10, 15, 16, 19, 23, 24] rfl ?_
            refine AWPD.region tabOK rfl ?_
            refine hK155 _ _ ?_
            clear hK155
            first | refine AWPD.condP rfl (fun h5 => ?_) (fun h5 => ?_) | refine AWPD.condN rfl (fun h5 => ?_) (fun h5 => ?_) | refine AWPD.condAP rfl (fun h5 => ?_) (fun h5 => ?_) | refine AWPD.condOP rfl (fun h5 => ?_) (fun h5 => ?_) | refine AWPD.condONN rfl (fun h5 => ?_) (fun h5 => ?_) | refine AWPD.condOPN rfl (fun h5 => ?_) (fun h5 => ?_) | refine AWPD.condA rfl (fun h5 => ?_) (fun h5 => ?_) | refine AWPD.condO rfl (fun h5 => ?_) (fun h5 => ?_) | refine AWPD.cond rfl (fun h5 => ?_) (fun h5 => ?_)
            · try dsimp only [Ty.T] at h5
              try simp only [castL_self] at h5
              try simp only [Int.toNat_natCast] at h5
              try simp only [Int.toNat_zero] at h5
              try (exact absurd h5 (by decide); done)
              all_goals
                have hb5 : tellE z asks bits = 0 := h5
                obtain ⟨he5, hm5⟩ := tell_ok hb5
                have g5 := ask_ok he5
                have gz5 := g5.n0
                have gb5 := tell_in hb5
                have hs5 := mask_in (hms hb5)
                have hp5 := pow12 (n := z.toNat) (by omega)
                have hgo : twinE z asks bits s = (if (twinO z asks bits s).isSome = true then 0 else 5) := by unfold twinE; rw [if_pos he5, if_pos ⟨hm5, hms hb5⟩]
                refine AWPD.seq fun K156 hK156 => ?_
                -- region 29
                refine AWPD.keep [0, 1, 2, 3, 10, 15, 16, 19, 23] rfl ?_
                refine AWPD.region tabOK rfl ?_
                refine Exists.intro _ (Exists.intro _ (And.intro (StepD.call (twin4_fn z asks bits s g5 gb5 (by omega)) rfl rfl rfl) (And.intro rfl (And.intro trivial ?_))))
                refine hK156 _ _ ?_
                clear hK156
                refine AWPD.seq fun K157 hK157 => ?_
                -- region 30
                refine AWPD.keep [0, 1, 2, 3, 10, 15, 16, 19, 23, 24] rfl ?_
                refine AWPD.region tabOK rfl ?_
                refine hK157 _ _ ?_
                clear hK157
                first | refine AWPD.condP rfl (fun h6 => ?_) (fun h6 => ?_) | refine AWPD.condN rfl (fun h6 => ?_) (fun h6 => ?_) | refine AWPD.condAP rfl (fun h6 => ?_) (fun h6 => ?_) | refine AWPD.condOP rfl (fun h6 => ?_) (fun h6 => ?_) | refine AWPD.condONN rfl (fun h6 => ?_) (fun h6 => ?_) | refine AWPD.condOPN rfl (fun h6 => ?_) (fun h6 => ?_) | refine AWPD.condA rfl (fun h6 => ?_) (fun h6 => ?_) | refine AWPD.condO rfl (fun h6 => ?_) (fun h6 => ?_) | refine AWPD.cond rfl (fun h6 => ?_) (fun h6 => ?_)
                · try dsimp only [Ty.T] at h6
                  try simp only [castL_self] at h6
                  try simp only [Int.toNat_natCast] at h6
                  try simp only [Int.toNat_zero] at h6
                  have hE : twinE z asks bits s = 5 ∧ twinV z asks bits s = 0 := by
                    unfold twinK at h6
                    cases ho : twinO z asks bits s with
                    | none =>
                      have h9 : twinE z asks bits s = 5 := by rw [hgo, ho]; rfl
                      exact ⟨h9, by unfold twinV; rw [h9]; rfl⟩
                    | some x =>
                      rw [ho] at h6
                      simp only at h6
                      omega
                  refine AWPD.seq fun K158 hK158 => ?_
                  -- region 31
                  refine AWPD.keep [0, 1, 2, 3, 10, 15, 19, 23] rfl ?_
                  refine AWPD.region tabOK rfl ?_
                  refine hK158 _ _ ?_
                  clear hK158
                  -- region 32
                  refine AWPD.keep [0, 1, 2, 3, 10, 15, 16, 19, 23] rfl ?_
                  refine AWPD.region tabOK rfl ?_
                  refine hK154 _ _ ?_
                  clear hK154
                  refine AWPD.seq fun K159 hK159 => ?_
                  -- region 33
                  refine AWPD.keep [0, 1, 2, 3, 10, 15, 16, 19, 23, 24] rfl ?_
                  refine AWPD.region tabOK rfl ?_
                  refine Exists.intro _ (Exists.intro _ (And.intro (StepD.call (twin_fn _ _ _ _) rfl rfl rfl) (And.intro rfl (And.intro trivial ?_))))
                  refine hK159 _ _ ?_
                  clear hK159
                  refine AWPD.seq fun K160 hK160 => ?_
                  -- region 34
                  refine AWPD.keep [10, 13, 14, 15, 16, 19, 23, 24] rfl ?_
                  refine AWPD.region tabOK rfl ?_
                  repeat refine And.intro (by first | (intro hg; exact absurd hg (by decide)) | (intro hg; exact absurd (by simpa using hg) he) | (intro hg; have := hmi he; rw [hsl]; omega) | exact fun h => h | exact fun _ => rfl | (intro h; rw [h]; rfl) | omega | (intros; (try dsimp only [Ty.T, Ty.size]); (try simp only [castL_self, Int.toNat_natCast, Int.toNat_zero, Int.toNat_one, true_and, List.length_append, List.length_set, List.length_drop, List.length_take, List.length_replicate, List.length_cons, List.length_nil, Nat.zero_add, Nat.mul_one]); omega) | decide | (intros; simp_all; done) | (intros; simp_all; omega)) ?_
                  refine Exists.intro _ (Exists.intro _ (And.intro (fun hg => StepD.callG errG_stays rfl hG0 (error_fn _ _) rfl rfl rfl) (And.intro (fun hf => rfl) (And.intro rfl (And.intro trivial ?_)))))
                  repeat refine And.intro (by first | (intro hg; exact absurd hg (by decide)) | (intro hg; exact absurd (by simpa using hg) he) | (intro hg; have := hmi he; rw [hsl]; omega) | exact fun h => h | exact fun _ => rfl | (intro h; rw [h]; rfl) | omega | (intros; (try dsimp only [Ty.T, Ty.size]); (try simp only [castL_self, Int.toNat_natCast, Int.toNat_zero, Int.toNat_one, true_and, List.length_append, List.length_set, List.length_drop, List.length_take, List.length_replicate, List.length_cons, List.length_nil, Nat.zero_add, Nat.mul_one]); omega) | decide | (intros; simp_all; done) | (intros; simp_all; omega)) ?_
                  refine hK160 _ _ ?_
                  clear hK160
                  refine AWPD.ret (And.intro (.inl rfl) ?_)
                  -- result 18
                  refine RetD.one ?_
                  refine fitB rfl ?_
                  first | rw [hE.1, hE.2] | rw [(hE0 h5).1, (hE0 h5).2]
                  first | (simp; done) | (simp; omega)
                · try dsimp only [Ty.T] at h6
                  try simp only [castL_self] at h6
                  try simp only [Int.toNat_natCast] at h6
                  try simp only [Int.toNat_zero] at h6
                  have hE : twinE z asks bits s = 0 ∧ twinV z asks bits s = twinK z asks bits s := by
                    unfold twinK at h6 ⊢
                    cases ho : twinO z asks bits s with
                    | none =>
                      rw [ho] at h6
                      simp only at h6
                      omega
                    | some x =>
                      have h9 : twinE z asks bits s = 0 := by rw [hgo, ho]; rfl
                      exact ⟨h9, by unfold twinV; rw [h9, ho]; rfl⟩
                  refine AWPD.skip ?_
                  refine hK154 _ _ ?_
                  clear hK154
                  refine AWPD.seq fun K161 hK161 => ?_
                  -- region 33
                  refine AWPD.keep [0, 1, 2, 3, 10, 15, 16, 19, 23, 24] rfl ?_
                  refine AWPD.region tabOK rfl ?_
                  refine Exists.intro _ (Exists.intro _ (And.intro (StepD.call (twin_fn _ _ _ _) rfl rfl rfl) (And.intro rfl (And.intro trivial ?_))))
                  refine hK161 _ _ ?_
                  clear hK161
                  refine AWPD.seq fun K162 hK162 => ?_
                  -- region 34
                  refine AWPD.keep [10, 13, 14, 15, 16, 19, 23, 24] rfl ?_
                  refine AWPD.region tabOK rfl ?_
                  repeat refine And.intro (by first | (intro hg; exact absurd hg (by decide)) | (intro hg; exact absurd (by simpa using hg) he) | (intro hg; have := hmi he; rw [hsl]; omega) | exact fun h => h | exact fun _ => rfl | (intro h; rw [h]; rfl) | omega | (intros; (try dsimp only [Ty.T, Ty.size]); (try simp only [castL_self, Int.toNat_natCast, Int.toNat_zero, Int.toNat_one, true_and, List.length_append, List.length_set, List.length_drop, List.length_take, List.length_replicate, List.length_cons, List.length_nil, Nat.zero_add, Nat.mul_one]); omega) | decide | (intros; simp_all; done) | (intros; simp_all; omega)) ?_
                  refine Exists.intro _ (Exists.intro _ (And.intro (fun hg => StepD.callG errG_stays rfl hG0 (error_fn _ _) rfl rfl rfl) (And.intro (fun hf => rfl) (And.intro rfl (And.intro trivial ?_)))))
                  repeat refine And.intro (by first | (intro hg; exact absurd hg (by decide)) | (intro hg; exact absurd (by simpa using hg) he) | (intro hg; have := hmi he; rw [hsl]; omega) | exact fun h => h | exact fun _ => rfl | (intro h; rw [h]; rfl) | omega | (intros; (try dsimp only [Ty.T, Ty.size]); (try simp only [castL_self, Int.toNat_natCast, Int.toNat_zero, Int.toNat_one, true_and, List.length_append, List.length_set, List.length_drop, List.length_take, List.length_replicate, List.length_cons, List.length_nil, Nat.zero_add, Nat.mul_one]); omega) | decide | (intros; simp_all; done) | (intros; simp_all; omega)) ?_
                  refine hK162 _ _ ?_
                  clear hK162
                  refine AWPD.ret (And.intro (.inl rfl) ?_)
                  -- result 19
                  refine RetD.one ?_
                  refine fitB rfl ?_
                  first | rw [hE.1, hE.2] | rw [(hE0 h5).1, (hE0 h5).2]
                  first | (simp; done) | (simp; omega)
            · try dsimp only [Ty.T] at h5
              try simp only [castL_self] at h5
              try simp only [Int.toNat_natCast] at h5
              try simp only [Int.toNat_zero] at h5
              have hE0 := fun (hb5 : ¬tellE z asks bits = 0) => twin_bits_err (s := s) hb5
              refine AWPD.skip ?_
              refine hK154 _ _ ?_
              clear hK154
              refine AWPD.seq fun K163 hK163 => ?_
              -- region 33
              refine AWPD.keep [0, 1, 2, 3, 10, 15, 16, 19, 23, 24] rfl ?_
              refine AWPD.region tabOK rfl ?_
              refine Exists.intro _ (Exists.intro _ (And.intro (StepD.call (twin_fn _ _ _ _) rfl rfl rfl) (And.intro rfl (And.intro trivial ?_))))
              refine hK163 _ _ ?_
              clear hK163
              refine AWPD.seq fun K164 hK164 => ?_
              -- region 34
              refine AWPD.keep [10, 13, 14, 15, 16, 19, 23, 24] rfl ?_
              refine AWPD.region tabOK rfl ?_
              repeat refine And.intro (by first | (intro hg; exact absurd hg (by decide)) | (intro hg; exact absurd (by simpa using hg) he) | (intro hg; have := hmi he; rw [hsl]; omega) | exact fun h => h | exact fun _ => rfl | (intro h; rw [h]; rfl) | omega | (intros; (try dsimp only [Ty.T, Ty.size]); (try simp only [castL_self, Int.toNat_natCast, Int.toNat_zero, Int.toNat_one, true_and, List.length_append, List.length_set, List.length_drop, List.length_take, List.length_replicate, List.length_cons, List.length_nil, Nat.zero_add, Nat.mul_one]); omega) | decide | (intros; simp_all; done) | (intros; simp_all; omega)) ?_
              refine Exists.intro _ (Exists.intro _ (And.intro (fun hg => StepD.callG errG_stays rfl hG0 (error_fn _ _) rfl rfl rfl) (And.intro (fun hf => rfl) (And.intro rfl (And.intro trivial ?_)))))
              repeat refine And.intro (by first | (intro hg; exact absurd hg (by decide)) | (intro hg; exact absurd (by simpa using hg) he) | (intro hg; have := hmi he; rw [hsl]; omega) | exact fun h => h | exact fun _ => rfl | (intro h; rw [h]; rfl) | omega | (intros; (try dsimp only [Ty.T, Ty.size]); (try simp only [castL_self, Int.toNat_natCast, Int.toNat_zero, Int.toNat_one, true_and, List.length_append, List.length_set, List.length_drop, List.length_take, List.length_replicate, List.length_cons, List.length_nil, Nat.zero_add, Nat.mul_one]); omega) | decide | (intros; simp_all; done) | (intros; simp_all; omega)) ?_
              refine hK164 _ _ ?_
              clear hK164
              refine AWPD.ret (And.intro (.inl rfl) ?_)
              -- result 20
              refine RetD.one ?_
              refine fitB rfl ?_
              first | rw [hE.1, hE.2] | rw [(hE0 h5).1, (hE0 h5).2]
              first | (simp; done) | (simp; omega)
          · try dsimp only [Ty.T] at h4
            try simp only [castL_self] at h4
            try simp only [Int.toNat_natCast] at h4
            try simp only [Int.toNat_zero] at h4
            have hms : tellE z asks bits = 0 → maskB s z = true := fun hb => by
              rw [decide_eq_true hb] at h4
              have h4 : (!maskB s z) = false := h4
              simpa using h4
            refine AWPD.skip ?_
            refine hK151 _ _ ?_
            clear hK151
            refine AWPD.seq fun K165 hK165 => ?_
            -- region 27
            refine AWPD.keep [0, 1, 2, 3, 10, 15, 16, 19, 23] rfl ?_
            refine AWPD.region tabOK rfl ?_
            refine hK165 _ _ ?_
            clear hK165
            refine AWPD.seq fun K166 hK166 => ?_
            refine AWPD.seq fun K167 hK167 => ?_
            -- region 28
            refine AWPD.keep [0, 1, 2, 3, 10, 15, 16, 19, 23, 24] rfl ?_
            refine AWPD.region tabOK rfl ?_
            refine hK167 _ _ ?_
            clear hK167
            first | refine AWPD.condP rfl (fun h5 => ?_) (fun h5 => ?_) | refine AWPD.condN rfl (fun h5 => ?_) (fun h5 => ?_) | refine AWPD.condAP rfl (fun h5 => ?_) (fun h5 => ?_) | refine AWPD.condOP rfl (fun h5 => ?_) (fun h5 => ?_) | refine AWPD.condONN rfl (fun h5 => ?_) (fun h5 => ?_) | refine AWPD.condOPN rfl (fun h5 => ?_) (fun h5 => ?_) | refine AWPD.condA rfl (fun h5 => ?_) (fun h5 => ?_) | refine AWPD.condO rfl (fun h5 => ?_) (fun h5 => ?_) | refine AWPD.cond rfl (fun h5 => ?_) (fun h5 => ?_)
            · try dsimp only [Ty.T] at h5
              try simp only [castL_self] at h5
              try simp only [Int.toNat_natCast] at h5
              try simp only [Int.toNat_zero] at h5
              try (exact absurd h5 (by decide); done)
              all_goals
                have hb5 : tellE z asks bits = 0 := h5
                obtain ⟨he5, hm5⟩ := tell_ok hb5
                have g5 := ask_ok he5
                have gz5 := g5.n0
                have gb5 := tell_in hb5
                have hs5 := mask_in (hms hb5)
                have hp5 := pow12 (n := z.toNat) (by omega)
                have hgo : twinE z asks bits s = (if (twinO z asks bits s).isSome = true then 0 else 5) := by unfold twinE; rw [if_pos he5, if_pos ⟨hm5, hms hb5⟩]
                refine AWPD.seq fun K168 hK168 => ?_
                -- region 29
                refine AWPD.keep [0, 1, 2, 3, 10, 15, 16, 19, 23] rfl ?_
                refine AWPD.region tabOK rfl ?_
                refine Exists.intro _ (Exists.intro _ (And.intro (StepD.call (twin4_fn z asks bits s g5 gb5 (by omega)) rfl rfl rfl) (And.intro rfl (And.intro trivial ?_))))
                refine hK168 _ _ ?_
                clear hK168
                refine AWPD.seq fun K169 hK169 => ?_
                -- region 30
                refine AWPD.keep [0, 1, 2, 3, 10, 15, 16, 19, 23, 24] rfl ?_
                refine AWPD.region tabOK rfl ?_
                refine hK169 _ _ ?_
                clear hK169
                first | refine AWPD.condP rfl (fun h6 => ?_) (fun h6 => ?_) | refine AWPD.condN rfl (fun h6 => ?_) (fun h6 => ?_) | refine AWPD.condAP rfl (fun h6 => ?_) (fun h6 => ?_) | refine AWPD.condOP rfl (fun h6 => ?_) (fun h6 => ?_) | refine AWPD.condONN rfl (fun h6 => ?_) (fun h6 => ?_) | refine AWPD.condOPN rfl (fun h6 => ?_) (fun h6 => ?_) | refine AWPD.condA rfl (fun h6 => ?_) (fun h6 => ?_) | refine AWPD.condO rfl (fun h6 => ?_) (fun h6 => ?_) | refine AWPD.cond rfl (fun h6 => ?_) (fun h6 => ?_)
                · try dsimp only [Ty.T] at h6
                  try simp only [castL_self] at h6
                  try simp only [Int.toNat_natCast] at h6
                  try simp only [Int.toNat_zero] at h6
                  have hE : twinE z asks bits s = 5 ∧ twinV z asks bits s = 0 := by
                    unfold twinK at h6
                    cases ho : twinO z asks bits s with
                    | none =>
                      have h9 : twinE z asks bits s = 5 := by rw [hgo, ho]; rfl
                      exact ⟨h9, by unfold twinV; rw [h9]; rfl⟩
                    | some x =>
                      rw [ho] at h6
                      simp only at h6
                      omega
                  refine AWPD.seq fun K170 hK170 => ?_
                  -- region 31
                  refine AWPD.keep [0, 1, 2, 3, 10, 15, 19, 23] rfl ?_
                  refine AWPD.region tabOK rfl ?_
                  refine hK170 _ _ ?_
                  clear hK170
                  -- region 32
                  refine AWPD.keep [0, 1, 2, 3, 10, 15, 16, 19, 23] rfl ?_
                  refine AWPD.region tabOK rfl ?_
                  refine hK166 _ _ ?_
                  clear hK166
                  refine AWPD.seq fun K171 hK171 => ?_
                  -- region 33
                  refine AWPD.keep [0, 1, 2, 3, 10, 15, 16, 19, 23, 24] rfl ?_
                  refine AWPD.region tabOK rfl ?_
                  refine Exists.intro _ (Exists.intro _ (And.intro (StepD.call (twin_fn _ _ _ _) rfl rfl rfl) (And.intro rfl (And.intro trivial ?_))))
                  refine hK171 _ _ ?_
                  clear hK171
                  refine AWPD.seq fun K172 hK172 => ?_
                  -- region 34
                  refine AWPD.keep [10, 13, 14, 15, 16, 19, 23, 24] rfl ?_
                  refine AWPD.region tabOK rfl ?_
                  repeat refine And.intro (by first | (intro hg; exact absurd hg (by decide)) | (intro hg; exact absurd (by simpa using hg) he) | (intro hg; have := hmi he; rw [hsl]; omega) | exact fun h => h | exact fun _ => rfl | (intro h; rw [h]; rfl) | omega | (intros; (try dsimp only [Ty.T, Ty.size]); (try simp only [castL_self, Int.toNat_natCast, Int.toNat_zero, Int.toNat_one, true_and, List.length_append, List.length_set, List.length_drop, List.length_take, List.length_replicate, List.length_cons, List.length_nil, Nat.zero_add, Nat.mul_one]); omega) | decide | (intros; simp_all; done) | (intros; simp_all; omega)) ?_
                  refine Exists.intro _ (Exists.intro _ (And.intro (fun hg => StepD.callG errG_stays rfl hG0 (error_fn _ _) rfl rfl rfl) (And.intro (fun hf => rfl) (And.intro rfl (And.intro trivial ?_)))))
                  repeat refine And.intro (by first | (intro hg; exact absurd hg (by decide)) | (intro hg; exact absurd (by simpa using hg) he) | (intro hg; have := hmi he; rw [hsl]; omega) | exact fun h => h | exact fun _ => rfl | (intro h; rw [h]; rfl) | omega | (intros; (try dsimp only [Ty.T, Ty.size]); (try simp only [castL_self, Int.toNat_natCast, Int.toNat_zero, Int.toNat_one, true_and, List.length_append, List.length_set, List.length_drop, List.length_take, List.length_replicate, List.length_cons, List.length_nil, Nat.zero_add, Nat.mul_one]); omega) | decide | (intros; simp_all; done) | (intros; simp_all; omega)) ?_
                  refine hK172 _ _ ?_
                  clear hK172
                  refine AWPD.ret (And.intro (.inl rfl) ?_)
                  -- result 21
                  refine RetD.one ?_
                  refine fitB rfl ?_
                  first | rw [hE.1, hE.2] | rw [(hE0 h5).1, (hE0 h5).2]
                  first | (simp; done) | (simp; omega)
                · try dsimp only [Ty.T] at h6
                  try simp only [castL_self] at h6
                  try simp only [Int.toNat_natCast] at h6
                  try simp only [Int.toNat_zero] at h6
                  have hE : twinE z asks bits s = 0 ∧ twinV z asks bits s = twinK z asks bits s := by
                    unfold twinK at h6 ⊢
                    cases ho : twinO z asks bits s with
                    | none =>
                      rw [ho] at h6
                      simp only at h6
                      omega
                    | some x =>
                      have h9 : twinE z asks bits s = 0 := by rw [hgo, ho]; rfl
                      exact ⟨h9, by unfold twinV; rw [h9, ho]; rfl⟩
                  refine AWPD.skip ?_
                  refine hK166 _ _ ?_
                  clear hK166
                  refine AWPD.seq fun K173 hK173 => ?_
                  -- region 33
                  refine AWPD.keep [0, 1, 2, 3, 10, 15, 16, 19, 23, 24] rfl ?_
                  refine AWPD.region tabOK rfl ?_
                  refine Exists.intro _ (Exists.intro _ (And.intro (StepD.call (twin_fn _ _ _ _) rfl rfl rfl) (And.intro rfl (And.intro trivial ?_))))
                  refine hK173 _ _ ?_
                  clear hK173
                  refine AWPD.seq fun K174 hK174 => ?_
                  -- region 34
                  refine AWPD.keep [10, 13, 14, 15, 16, 19, 23, 24] rfl ?_
                  refine AWPD.region tabOK rfl ?_
                  repeat refine And.intro (by first | (intro hg; exact absurd hg (by decide)) | (intro hg; exact absurd (by simpa using hg) he) | (intro hg; have := hmi he; rw [hsl]; omega) | exact fun h => h | exact fun _ => rfl | (intro h; rw [h]; rfl) | omega | (intros; (try dsimp only [Ty.T, Ty.size]); (try simp only [castL_self, Int.toNat_natCast, Int.toNat_zero, Int.toNat_one, true_and, List.length_append, List.length_set, List.length_drop, List.length_take, List.length_replicate, List.length_cons, List.length_nil, Nat.zero_add, Nat.mul_one]); omega) | decide | (intros; simp_all; done) | (intros; simp_all; omega)) ?_
                  refine Exists.intro _ (Exists.intro _ (And.intro (fun hg => StepD.callG errG_stays rfl hG0 (error_fn _ _) rfl rfl rfl) (And.intro (fun hf => rfl) (And.intro rfl (And.intro trivial ?_)))))
                  repeat refine And.intro (by first | (intro hg; exact absurd hg (by decide)) | (intro hg; exact absurd (by simpa using hg) he) | (intro hg; have := hmi he; rw [hsl]; omega) | exact fun h => h | exact fun _ => rfl | (intro h; rw [h]; rfl) | omega | (intros; (try dsimp only [Ty.T, Ty.size]); (try simp only [castL_self, Int.toNat_natCast, Int.toNat_zero, Int.toNat_one, true_and, List.length_append, List.length_set, List.length_drop, List.length_take, List.length_replicate, List.length_cons, List.length_nil, Nat.zero_add, Nat.mul_one]); omega) | decide | (intros; simp_all; done) | (intros; simp_all; omega)) ?_
                  refine hK174 _ _ ?_
                  clear hK174
                  refine AWPD.ret (And.intro (.inl rfl) ?_)
                  -- result 22
                  refine RetD.one ?_
                  refine fitB rfl ?_
                  first | rw [hE.1, hE.2] | rw [(hE0 h5).1, (hE0 h5).2]
                  first | (simp; done) | (simp; omega)
            · try dsimp only [Ty.T] at h5
              try simp only [castL_self] at h5
              try simp only [Int.toNat_natCast] at h5
              try simp only [Int.toNat_zero] at h5
              have hE0 := fun (hb5 : ¬tellE z asks bits = 0) => twin_bits_err (s := s) hb5
              refine AWPD.skip ?_
              refine hK166 _ _ ?_
              clear hK166
              refine AWPD.seq fun K175 hK175 => ?_
              -- region 33
              refine AWPD.keep [0, 1, 2, 3, 10, 15, 16, 19, 23, 24] rfl ?_
              refine AWPD.region tabOK rfl ?_
              refine Exists.intro _ (Exists.intro _ (And.intro (StepD.call (twin_fn _ _ _ _) rfl rfl rfl) (And.intro rfl (And.intro trivial ?_))))
              refine hK175 _ _ ?_
              clear hK175
              refine AWPD.seq fun K176 hK176 => ?_
              -- region 34
              refine AWPD.keep [10, 13, 14, 15, 16, 19, 23, 24] rfl ?_
              refine AWPD.region tabOK rfl ?_
              repeat refine And.intro (by first | (intro hg; exact absurd hg (by decide)) | (intro hg; exact absurd (by simpa using hg) he) | (intro hg; have := hmi he; rw [hsl]; omega) | exact fun h => h | exact fun _ => rfl | (intro h; rw [h]; rfl) | omega | (intros; (try dsimp only [Ty.T, Ty.size]); (try simp only [castL_self, Int.toNat_natCast, Int.toNat_zero, Int.toNat_one, true_and, List.length_append, List.length_set, List.length_drop, List.length_take, List.length_replicate, List.length_cons, List.length_nil, Nat.zero_add, Nat.mul_one]); omega) | decide | (intros; simp_all; done) | (intros; simp_all; omega)) ?_
              refine Exists.intro _ (Exists.intro _ (And.intro (fun hg => StepD.callG errG_stays rfl hG0 (error_fn _ _) rfl rfl rfl) (And.intro (fun hf => rfl) (And.intro rfl (And.intro trivial ?_)))))
              repeat refine And.intro (by first | (intro hg; exact absurd hg (by decide)) | (intro hg; exact absurd (by simpa using hg) he) | (intro hg; have := hmi he; rw [hsl]; omega) | exact fun h => h | exact fun _ => rfl | (intro h; rw [h]; rfl) | omega | (intros; (try dsimp only [Ty.T, Ty.size]); (try simp only [castL_self, Int.toNat_natCast, Int.toNat_zero, Int.toNat_one, true_and, List.length_append, List.length_set, List.length_drop, List.length_take, List.length_replicate, List.length_cons, List.length_nil, Nat.zero_add, Nat.mul_one]); omega) | decide | (intros; simp_all; done) | (intros; simp_all; omega)) ?_
              refine hK176 _ _ ?_
              clear hK176
              refine AWPD.ret (And.intro (.inl rfl) ?_)
              -- result 23
              refine RetD.one ?_
              refine fitB rfl ?_
              first | rw [hE.1, hE.2] | rw [(hE0 h5).1, (hE0 h5).2]
              first | (simp; done) | (simp; omega)
      clear hK142
      refine AWPD.seq fun K177 hK177 => ?_
      -- region 16
      refine AWPD.keep [0, 1, 2, 3, 10, 15, 16, 19] rfl ?_
      refine AWPD.region tabOK rfl ?_
      repeat refine And.intro (by first | (intro hg; exact absurd hg (by decide)) | (intro hg; exact absurd (by simpa using hg) he) | (intro hg; have := hmi he; rw [hsl]; omega) | exact fun h => h | exact fun _ => rfl | (intro h; rw [h]; rfl) | omega | (intros; (try dsimp only [Ty.T, Ty.size]); (try simp only [castL_self, Int.toNat_natCast, Int.toNat_zero, Int.toNat_one, true_and, List.length_append, List.length_set, List.length_drop, List.length_take, List.length_replicate, List.length_cons, List.length_nil, Nat.zero_add, Nat.mul_one]); omega) | decide | (intros; simp_all; done) | (intros; simp_all; omega)) ?_
      refine Exists.intro _ (Exists.intro _ (And.intro (fun hg => StepD.call (rmask_fn bits z (by first | omega | exact absurd (by simpa using hg) he)) rfl rfl rfl) (And.intro (fun hf => rfl) (And.intro rfl (And.intro trivial ?_)))))
      repeat refine And.intro (by first | (intro hg; exact absurd hg (by decide)) | (intro hg; exact absurd (by simpa using hg) he) | (intro hg; have := hmi he; rw [hsl]; omega) | exact fun h => h | exact fun _ => rfl | (intro h; rw [h]; rfl) | omega | (intros; (try dsimp only [Ty.T, Ty.size]); (try simp only [castL_self, Int.toNat_natCast, Int.toNat_zero, Int.toNat_one, true_and, List.length_append, List.length_set, List.length_drop, List.length_take, List.length_replicate, List.length_cons, List.length_nil, Nat.zero_add, Nat.mul_one]); omega) | decide | (intros; simp_all; done) | (intros; simp_all; omega)) ?_
      refine hK177 _ _ ?_
      clear hK177
      first | refine AWPD.cond rfl (fun h2 => ?_) (fun h2 => ?_)
      · try dsimp only [Ty.T] at h2
        try simp only [castL_self] at h2
        try simp only [Int.toNat_natCast] at h2
        try simp only [Int.toNat_zero] at h2
        try (exact absurd (tellE_t h2).1 he; done)
        all_goals
          have hB : (1 : Int) = tellE z asks bits := (tellE_t h2).2.symm
          -- region 17
          refine AWPD.keep [0, 1, 2, 3, 10, 15, 19] rfl ?_
          refine AWPD.region tabOK rfl ?_
          exact tail142 _ _ _ _ _ rfl (⟨by simp, by simp [hrk], by first | (simp [hT, hV, he]; done) | (simp [hT, hV]; done), hB⟩)
      · try dsimp only [Ty.T] at h2
        try simp only [castL_self] at h2
        try simp only [Int.toNat_natCast] at h2
        try simp only [Int.toNat_zero] at h2
        have hB : askE z asks = tellE z asks bits := (tellE_f h2).1.symm
        refine AWPD.skip ?_
        exact tail142 _ _ _ _ _ rfl (⟨by simp, by simp [hrk], by first | (simp [hT, hV, he]; done) | (simp [hT, hV]; done), hB⟩)
end Go.Proofs.YtmeacgkhabnjlaaDoor
