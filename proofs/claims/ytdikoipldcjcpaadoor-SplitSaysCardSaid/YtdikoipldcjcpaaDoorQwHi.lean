/-
  The walk of the law that fewer shares say nothing. Laid by a program of mine out of the operations, with the loops and results told by hand.
-/
import Derived.Test.YtdikoipldcjcpaaDoorQwSpL
import Derived.Test.YtdikoipldcjcpaaDoorQwEr
namespace Go.Proofs.YtdikoipldcjcpaaDoor
open Go Go.Qw
set_option maxRecDepth 10000
set_option linter.unusedSimpArgs false
set_option linter.unusedVariables false
set_option linter.unusedSectionVars false


theorem deal_shares {p secret : Int} {rest : List Int} {many : Int} (h : dealE p secret rest many = 0) (h0 : 0 < (dealL p secret rest many).length) : sharesE p (dealL p secret rest many) = 0 := by
  have g := deal_good h
  have hm := g.many_
  have hp2 := g.p2
  rw [dealL_ok h] at h0 ⊢
  rw [dealT_len] at h0
  refine sharesE_zero g.field (by rw [dealT_len]; exact h0) (by rw [dealT_len]; omega) (fun s hs => ?_) ?_
  · obtain ⟨q, hq, rfl⟩ := List.mem_iff_getElem.1 hs
    rw [dealT_len] at hq
    have e := dealT_get p (secret :: rest) hq
    simp only [List.getD, List.getElem?_eq_getElem (show q < (dealT p (secret :: rest) many.toNat).length by rw [dealT_len]; exact hq), Option.getD_some] at e
    rw [e]
    exact ⟨⟨by simp only; omega, by simp only; omega⟩, atV_in g.p2 _⟩
  · have e : (dealT p (secret :: rest) many.toNat).map (·.1) = (List.range many.toNat).map fun i : Nat => (i : Int) + 1 := by simp [dealT]
    rw [e]
    exact List.pairwise_map.2 (List.Pairwise.imp (fun hne e => hne (by omega)) List.nodup_range)
theorem deal_join {p secret : Int} {rest : List Int} {many : Int} (h : dealE p secret rest many = 0) {l : List Sh} (hs : sharesE p l = 0) (hm : ∀ s ∈ l, s ∈ dealL p secret rest many) (hn : rest.length < l.length) : joinV p l = secret := by
  have g := deal_good h
  refine join_at hs (f := fun z => atV p z (secret :: rest)) ((atV_dvd p 0 (secret :: rest)).le (by simp only [List.length_cons]; omega)) (fun s hs => ?_) g.sec ⟨0, by rw [atV_zero p _ _ g.sec]; simp⟩
  have hmem := hm s hs
  rw [dealL_ok h] at hmem
  obtain ⟨q, hq, rfl⟩ := List.mem_iff_getElem.1 hmem
  rw [dealT_len] at hq
  have e := dealT_get p (secret :: rest) hq
  simp only [List.getD, List.getElem?_eq_getElem (show q < (dealT p (secret :: rest) many.toNat).length by rw [dealT_len]; exact hq), Option.getD_some] at e
  rw [e]
  exact ⟨0, by simp⟩
structure HidesOK (p secret : Int) (rest : List Int) (many : Int) : Prop where
  p2 : 2 ≤ p
  p31 : p ≤ 31
  sec : 0 ≤ secret ∧ secret ≤ p - 1
  few : rest.length < 12
  l12 : (dealL p secret rest many).length ≤ 12
  err : leftE p (dealL p secret rest many) ((rest.length : Int) + 1) ≠ 0 → leftE p (dealL p secret rest many) ((rest.length : Int) + 1) = 4
  less : leftE p (dealL p secret rest many) ((rest.length : Int) + 1) = 0 → (dealL p secret rest many).length ≤ rest.length → ∃ c, 1 ≤ c ∧ leftV p (dealL p secret rest many) ((rest.length : Int) + 1) = List.replicate p.toNat c
  more : leftE p (dealL p secret rest many) ((rest.length : Int) + 1) = 0 → rest.length < (dealL p secret rest many).length → leftV p (dealL p secret rest many) ((rest.length : Int) + 1) = (List.replicate p.toNat 0).set secret.toNat 1
theorem hides_ok {p secret : Int} {rest : List Int} {many : Int} (h : dealE p secret rest many = 0) (h0 : 0 < (dealL p secret rest many).length) : HidesOK p secret rest many := by
  have g := deal_good h
  have hs := deal_shares h h0
  have gs := shares_good hs
  have gf := g.few
  have gp2 := gs.p2
  have gp3 := gs.p31
  have hsec := g.sec
  have hn : 1 ≤ (rest.length : Int) + 1 ∧ (rest.length : Int) + 1 ≤ 12 := by omega
  refine ⟨gp2, gp3, g.sec, by omega, gs.few, fun he => ?_, fun he hl => ?_, fun he hl => ?_⟩
  · unfold leftE at he ⊢
    rw [if_neg (fun x => x hs), if_neg (fun x => x hn)] at he ⊢
    split at he
    · rename_i hc; rw [if_pos hc]
    · exact absurd rfl he
  · have hp : powI p ((rest.length : Int) + 1 - 1 - (dealL p secret rest many).length).toNat ≤ 1000000000000 := by
      unfold leftE at he
      rw [if_neg (fun x => x hs), if_neg (fun x => x hn)] at he
      split at he
      · cases he
      · rename_i h1; exact Int.not_lt.1 fun h2 => h1 ⟨by omega, h2⟩
    exact ⟨_, powI_pos gp2 _, (left_few hs hn (by omega) hp).2⟩
  · have hneed : ((rest.length : Int) + 1).toNat = rest.length + 1 := by omega
    have e := (left_many hs hn (by omega)).2
    have j1 : joinV p ((dealL p secret rest many).take (rest.length + 1)) = secret := deal_join h (take_good gs g.field (by omega) (by omega)) (fun s hs => List.mem_of_mem_take hs) (by rw [List.length_take]; omega)
    have hsm : sameS p (dealL p secret rest many) (rest.length + 1) := fun j hj => by
      rw [j1]
      refine deal_join h (other_good gs g.field (by omega) (by omega) hj) (fun s hs => ?_) (by simp [otherS]; omega)
      unfold otherS at hs
      rcases List.mem_append.1 hs with hh | hh
      · rw [List.mem_singleton.1 hh]; exact getD_mem hj _
      · exact List.mem_of_mem_take (List.mem_of_mem_drop hh)
    rw [hneed, if_pos hsm, j1] at e
    exact e

theorem splitHides_fn (p secret : Int) (rest : List Int) (many : Int) : LiftsG Tryd.prog errG 5 [.i p, .i secret, .sl .int rest, .i many] (.b true) := by
  refine LiftsG.of_body 121 [.tmp 8] Tryd.func5 rfl Tryd.ntmps5 (by kernel_rfl) rfl rfl fun w0 X0 hG0 => ?_
  refine AWPD.seq fun K1 hK1 => ?_
  -- region 0
  refine AWPD.keep [0, 1, 2, 3] rfl ?_
  refine AWPD.region tabOK rfl ?_
  refine hK1 _ _ ?_
  clear hK1
  refine AWPD.seq fun K2 hK2 => ?_
  -- region 1
  refine AWPD.keep [0, 1, 2, 3] rfl ?_
  refine AWPD.region tabOK rfl ?_
  refine Exists.intro _ (Exists.intro _ (And.intro (StepD.call (splitFact_fn) rfl rfl rfl) (And.intro rfl (And.intro trivial ?_))))
  refine hK2 _ _ ?_
  clear hK2
  refine AWPD.seq fun K3 hK3 => ?_
  refine AWPD.seq fun K4 hK4 => ?_
  -- region 2
  refine AWPD.keep [0, 1, 2, 3, 9] rfl ?_
  refine AWPD.region tabOK rfl ?_
  refine hK4 _ _ ?_
  clear hK4
  first | refine AWPD.condP rfl (fun h0 => ?_) (fun h0 => ?_) | refine AWPD.condN rfl (fun h0 => ?_) (fun h0 => ?_) | refine AWPD.condAP rfl (fun h0 => ?_) (fun h0 => ?_) | refine AWPD.condOP rfl (fun h0 => ?_) (fun h0 => ?_) | refine AWPD.condONN rfl (fun h0 => ?_) (fun h0 => ?_) | refine AWPD.condOPN rfl (fun h0 => ?_) (fun h0 => ?_) | refine AWPD.condA rfl (fun h0 => ?_) (fun h0 => ?_) | refine AWPD.condO rfl (fun h0 => ?_) (fun h0 => ?_) | refine AWPD.cond rfl (fun h0 => ?_) (fun h0 => ?_)
  · try dsimp only [Ty.T] at h0
    try simp only [castL_self] at h0
    try simp only [Int.toNat_natCast] at h0
    try simp only [Int.toNat_zero] at h0
    exact absurd h0 (by decide)
  · try dsimp only [Ty.T] at h0
    try simp only [castL_self] at h0
    try simp only [Int.toNat_natCast] at h0
    try simp only [Int.toNat_zero] at h0
    refine AWPD.skip ?_
    refine hK3 _ _ ?_
    clear hK3
    refine AWPD.seq fun K5 hK5 => ?_
    -- region 4
    refine AWPD.keep [0, 1, 2, 3] rfl ?_
    refine AWPD.region tabOK rfl ?_
    refine Exists.intro _ (Exists.intro _ (And.intro (StepD.call (deal_fn _ _ _ _) rfl rfl rfl) (And.intro rfl (And.intro trivial ?_))))
    refine hK5 _ _ ?_
    clear hK5
    refine AWPD.seq fun K6 hK6 => ?_
    refine AWPD.seq fun K7 hK7 => ?_
    -- region 5
    refine AWPD.keep [0, 1, 2, 10, 11] rfl ?_
    refine AWPD.region tabOK rfl ?_
    repeat refine And.intro (by first | exact fun h => h | exact fun _ => rfl | (intro h; rw [h]; rfl) | omega | (intros; (try dsimp only [Ty.T, Ty.size]); (try simp only [castL_self, Int.toNat_natCast, Int.toNat_zero, Int.toNat_one, true_and, List.length_append, List.length_set, List.length_drop, List.length_take, List.length_replicate, List.length_cons, List.length_nil, Nat.zero_add, Nat.mul_one]); omega) | decide | (intros; simp_all; done) | (intros; simp_all; omega)) ?_
    refine hK7 _ _ ?_
    clear hK7
    first | refine AWPD.cond rfl (fun h1 => ?_) (fun h1 => ?_)
    · try dsimp only [Ty.T] at h1
      try simp only [castL_self] at h1
      try simp only [Int.toNat_natCast] at h1
      try simp only [Int.toNat_zero] at h1
      try simp only [Bool.cond_true_left, Bool.cond_false_right, Bool.cond_true_right, Bool.cond_false_left, Bool.or_eq_true, Bool.and_eq_true, decide_eq_true_eq, Bool.or_eq_false_iff, Bool.and_eq_false_iff, decide_eq_false_iff_not, Bool.not_eq_true', Bool.not_eq_false', Bool.not_eq_eq_eq_not, Bool.not_true, Bool.not_false] at h1
      refine AWPD.seq fun K8 hK8 => ?_
      -- region 6
      refine AWPD.keep [10] rfl ?_
      refine AWPD.region tabOK rfl ?_
      refine hK8 _ _ ?_
      clear hK8
      refine AWPD.ret (And.intro (.inl rfl) ?_)
      -- result 0
      refine RetD.one ?_
      refine fitB rfl ?_
      rcases h1 with h | h
      · rw [dealL_no h]; simp
      · simp; exact List.eq_nil_of_length_eq_zero (by omega)
    · try dsimp only [Ty.T] at h1
      try simp only [castL_self] at h1
      try simp only [Int.toNat_natCast] at h1
      try simp only [Int.toNat_zero] at h1
      try simp only [Bool.cond_true_left, Bool.cond_false_right, Bool.cond_true_right, Bool.cond_false_left, Bool.or_eq_true, Bool.and_eq_true, decide_eq_true_eq, Bool.or_eq_false_iff, Bool.and_eq_false_iff, decide_eq_false_iff_not, Bool.not_eq_true', Bool.not_eq_false', Bool.not_eq_eq_eq_not, Bool.not_true, Bool.not_false] at h1
      have he : dealE p secret rest many = 0 := by omega
      have g := hides_ok he (by omega)
      obtain ⟨g1, g2, g3, g4, g5, g6, g7, g8⟩ := g
      refine AWPD.skip ?_
      refine hK6 _ _ ?_
      clear hK6
      refine AWPD.seq fun K9 hK9 => ?_
      -- region 7
      refine AWPD.keep [0, 1, 2, 10] rfl ?_
      refine AWPD.region tabOK rfl ?_
      repeat refine And.intro (by first | exact fun h => h | exact fun _ => rfl | (intro h; rw [h]; rfl) | omega | (intros; (try dsimp only [Ty.T, Ty.size]); (try simp only [castL_self, Int.toNat_natCast, Int.toNat_zero, Int.toNat_one, true_and, List.length_append, List.length_set, List.length_drop, List.length_take, List.length_replicate, List.length_cons, List.length_nil, Nat.zero_add, Nat.mul_one]); omega) | decide | (intros; simp_all; done) | (intros; simp_all; omega)) ?_
      refine Exists.intro _ (Exists.intro _ (And.intro (StepD.call (left_fn _ _ _) rfl rfl rfl) (And.intro rfl (And.intro trivial ?_))))
      refine hK9 _ _ ?_
      clear hK9
      refine AWPD.seq fun K10 hK10 => ?_
      refine AWPD.seq fun K11 hK11 => ?_
      -- region 8
      refine AWPD.keep [0, 1, 2, 10, 12, 13] rfl ?_
      refine AWPD.region tabOK rfl ?_
      refine hK11 _ _ ?_
      clear hK11
      first | refine AWPD.condP rfl (fun h2 => ?_) (fun h2 => ?_) | refine AWPD.condN rfl (fun h2 => ?_) (fun h2 => ?_) | refine AWPD.condAP rfl (fun h2 => ?_) (fun h2 => ?_) | refine AWPD.condOP rfl (fun h2 => ?_) (fun h2 => ?_) | refine AWPD.condONN rfl (fun h2 => ?_) (fun h2 => ?_) | refine AWPD.condOPN rfl (fun h2 => ?_) (fun h2 => ?_) | refine AWPD.condA rfl (fun h2 => ?_) (fun h2 => ?_) | refine AWPD.condO rfl (fun h2 => ?_) (fun h2 => ?_) | refine AWPD.cond rfl (fun h2 => ?_) (fun h2 => ?_)
      · try dsimp only [Ty.T] at h2
        try simp only [castL_self] at h2
        try simp only [Int.toNat_natCast] at h2
        try simp only [Int.toNat_zero] at h2
        have e4 := g6 h2
        refine AWPD.seq fun K12 hK12 => ?_
        -- region 9
        refine AWPD.keep [2, 13] rfl ?_
        refine AWPD.region tabOK rfl ?_
        refine Exists.intro _ (Exists.intro _ (And.intro (StepD.callG errG_stays rfl hG0 (error_fn _ _) rfl rfl rfl) (And.intro rfl (And.intro trivial ?_))))
        repeat refine And.intro (by first | exact fun h => h | exact fun _ => rfl | (intro h; rw [h]; rfl) | omega | (intros; (try dsimp only [Ty.T, Ty.size]); (try simp only [castL_self, Int.toNat_natCast, Int.toNat_zero, Int.toNat_one, true_and, List.length_append, List.length_set, List.length_drop, List.length_take, List.length_replicate, List.length_cons, List.length_nil, Nat.zero_add, Nat.mul_one]); omega) | decide | (intros; simp_all; done) | (intros; simp_all; omega)) ?_
        refine hK12 _ _ ?_
        clear hK12
        refine AWPD.ret (And.intro (.inl rfl) ?_)
        -- result 1
        refine RetD.one ?_
        exact fitB rfl (by rw [e4]; rfl)
      · try dsimp only [Ty.T] at h2
        try simp only [castL_self] at h2
        try simp only [Int.toNat_natCast] at h2
        try simp only [Int.toNat_zero] at h2
        have e0 : leftE p (dealL p secret rest many) ((rest.length : Int) + 1) = 0 := by simpa using h2
        have hlen : (leftV p (dealL p secret rest many) ((rest.length : Int) + 1)).length = p.toNat := by
          by_cases hl : (dealL p secret rest many).length ≤ rest.length
          · obtain ⟨c, _, e⟩ := g7 e0 hl; rw [e]; simp
          · rw [g8 e0 (by omega)]; simp
        have hfew : (dealL p secret rest many).length ≤ rest.length → ∀ i, i < p.toNat → 1 ≤ (leftV p (dealL p secret rest many) ((rest.length : Int) + 1)).getD i 0 ∧ (leftV p (dealL p secret rest many) ((rest.length : Int) + 1)).getD i 0 = (leftV p (dealL p secret rest many) ((rest.length : Int) + 1)).getD 0 0 := fun hl i hi => by
          obtain ⟨c, hc, e⟩ := g7 e0 hl
          rw [e, rep_get hi, rep_get (by omega)]
          exact ⟨hc, rfl⟩
        have hmany : rest.length < (dealL p secret rest many).length → ∀ i, i < p.toNat → (leftV p (dealL p secret rest many) ((rest.length : Int) + 1)).getD i 0 = if i = secret.toNat then 1 else 0 := fun hl i hi => by
          rw [g8 e0 hl, hot_get (by omega) hi]
        refine AWPD.skip ?_
        refine hK10 _ _ ?_
        clear hK10
        refine AWPD.seq fun K13 hK13 => ?_
        refine AWPD.seq fun K14 hK14 => ?_
        -- region 10
        refine AWPD.keep [0, 1, 2, 10, 12] rfl ?_
        refine AWPD.region tabOK rfl ?_
        refine hK14 _ _ ?_
        clear hK14
        first | refine AWPD.condP rfl (fun h3 => ?_) (fun h3 => ?_) | refine AWPD.condN rfl (fun h3 => ?_) (fun h3 => ?_) | refine AWPD.condAP rfl (fun h3 => ?_) (fun h3 => ?_) | refine AWPD.condOP rfl (fun h3 => ?_) (fun h3 => ?_) | refine AWPD.condONN rfl (fun h3 => ?_) (fun h3 => ?_) | refine AWPD.condOPN rfl (fun h3 => ?_) (fun h3 => ?_) | refine AWPD.condA rfl (fun h3 => ?_) (fun h3 => ?_) | refine AWPD.condO rfl (fun h3 => ?_) (fun h3 => ?_) | refine AWPD.cond rfl (fun h3 => ?_) (fun h3 => ?_)
        · try dsimp only [Ty.T] at h3
          try simp only [castL_self] at h3
          try simp only [Int.toNat_natCast] at h3
          try simp only [Int.toNat_zero] at h3
          exfalso; omega
        · try dsimp only [Ty.T] at h3
          try simp only [castL_self] at h3
          try simp only [Int.toNat_natCast] at h3
          try simp only [Int.toNat_zero] at h3
          refine AWPD.skip ?_
          refine hK13 _ _ ?_
          clear hK13
          refine AWPD.seq fun K15 hK15 => ?_
          refine AWPD.seq fun K16 hK16 => ?_
          -- region 12
          refine AWPD.keep [0, 1, 2, 10, 12] rfl ?_
          refine AWPD.region tabOK rfl ?_
          refine hK16 _ _ ?_
          clear hK16
          refine AWPD.block ?_
          -- LOOP 0 live [0, 1, 2, 10, 12, 14] changed [14]
          refine AWPD.loopK (σ := Nat) [0, 1, 2, 10, 12] (fun i base => (14, .i (i : Int)) :: base) (fun _ => []) (fun n i => n + i = p.toNat) (p.toNat) 0 [] rfl rfl (by omega) (by decide) trivial (by repeat' first | exact True.intro | exact rfl | exact ⟨rfl, rfl⟩ | refine And.intro ?_ ?_) fun n0 i hI0 => ?_
          have hn0 := hI0
          refine AWPD.seq fun K17 hK17 => ?_
          refine AWPD.seq fun K18 hK18 => ?_
          -- region 13
          refine AWPD.keep [0, 1, 2, 10, 12, 14] rfl ?_
          refine AWPD.region tabOK rfl ?_
          refine hK18 _ _ ?_
          clear hK18
          first | refine AWPD.condP rfl (fun h4 => ?_) (fun h4 => ?_) | refine AWPD.condN rfl (fun h4 => ?_) (fun h4 => ?_) | refine AWPD.condAP rfl (fun h4 => ?_) (fun h4 => ?_) | refine AWPD.condOP rfl (fun h4 => ?_) (fun h4 => ?_) | refine AWPD.condONN rfl (fun h4 => ?_) (fun h4 => ?_) | refine AWPD.condOPN rfl (fun h4 => ?_) (fun h4 => ?_) | refine AWPD.condA rfl (fun h4 => ?_) (fun h4 => ?_) | refine AWPD.condO rfl (fun h4 => ?_) (fun h4 => ?_) | refine AWPD.cond rfl (fun h4 => ?_) (fun h4 => ?_)
          · try dsimp only [Ty.T] at h4
            try simp only [castL_self] at h4
            try simp only [Int.toNat_natCast] at h4
            try simp only [Int.toNat_zero] at h4
            refine AWPD.skip ?_
            refine hK17 _ _ ?_
            clear hK17
            refine AWPD.seq fun K19 hK19 => ?_
            refine AWPD.block ?_
            refine AWPD.seq fun K20 hK20 => ?_
            refine AWPD.seq fun K21 hK21 => ?_
            -- region 15
            refine AWPD.keep [0, 1, 2, 10, 12, 14] rfl ?_
            refine AWPD.draw tabOK [] rfl (by kernel_rfl) ?_
            repeat refine And.intro (by first | exact fun h => h | exact fun _ => rfl | (intro h; rw [h]; rfl) | omega | (intros; (try dsimp only [Ty.T, Ty.size]); (try simp only [castL_self, Int.toNat_natCast, Int.toNat_zero, Int.toNat_one, true_and, List.length_append, List.length_set, List.length_drop, List.length_take, List.length_replicate, List.length_cons, List.length_nil, Nat.zero_add, Nat.mul_one]); omega) | decide | (intros; simp_all; done) | (intros; simp_all; omega)) ?_
            refine hK21 _ _ ?_
            clear hK21
            first | refine AWPD.cond rfl (fun h5 => ?_) (fun h5 => ?_)
            · try dsimp only [Ty.T] at h5
              try simp only [castL_self] at h5
              try simp only [Int.toNat_natCast] at h5
              try simp only [Int.toNat_zero] at h5
              try simp only [Bool.cond_true_left, Bool.cond_false_right, Bool.cond_true_right, Bool.cond_false_left, Bool.or_eq_true, Bool.and_eq_true, decide_eq_true_eq, Bool.or_eq_false_iff, Bool.and_eq_false_iff, decide_eq_false_iff_not, Bool.not_eq_true', Bool.not_eq_false', Bool.not_eq_eq_eq_not, Bool.not_true, Bool.not_false] at h5
              exfalso
              have := hfew (by omega) i (by omega)
              omega
            · try dsimp only [Ty.T] at h5
              try simp only [castL_self] at h5
              try simp only [Int.toNat_natCast] at h5
              try simp only [Int.toNat_zero] at h5
              try simp only [Bool.cond_true_left, Bool.cond_false_right, Bool.cond_true_right, Bool.cond_false_left, Bool.or_eq_true, Bool.and_eq_true, decide_eq_true_eq, Bool.or_eq_false_iff, Bool.and_eq_false_iff, decide_eq_false_iff_not, Bool.not_eq_true', Bool.not_eq_false', Bool.not_eq_eq_eq_not, Bool.not_true, Bool.not_false] at h5
              refine AWPD.skip ?_
              refine hK20 _ _ ?_
              clear hK20
              refine AWPD.seq fun K22 hK22 => ?_
              -- region 17
              refine AWPD.keep [0, 1, 2, 10, 12, 14] rfl ?_
              refine AWPD.region tabOK rfl ?_
              repeat refine And.intro (by first | exact fun h => h | exact fun _ => rfl | (intro h; rw [h]; rfl) | omega | (intros; (try dsimp only [Ty.T, Ty.size]); (try simp only [castL_self, Int.toNat_natCast, Int.toNat_zero, Int.toNat_one, true_and, List.length_append, List.length_set, List.length_drop, List.length_take, List.length_replicate, List.length_cons, List.length_nil, Nat.zero_add, Nat.mul_one]); omega) | decide | (intros; simp_all; done) | (intros; simp_all; omega)) ?_
              refine hK22 _ _ ?_
              clear hK22
              first | refine AWPD.cond rfl (fun h6 => ?_) (fun h6 => ?_)
              · try dsimp only [Ty.T] at h6
                try simp only [castL_self] at h6
                try simp only [Int.toNat_natCast] at h6
                try simp only [Int.toNat_zero] at h6
                try simp only [Bool.cond_true_left, Bool.cond_false_right, Bool.cond_true_right, Bool.cond_false_left, Bool.or_eq_true, Bool.and_eq_true, decide_eq_true_eq, Bool.or_eq_false_iff, Bool.and_eq_false_iff, decide_eq_false_iff_not, Bool.not_eq_true', Bool.not_eq_false', Bool.not_eq_eq_eq_not, Bool.not_true, Bool.not_false] at h6
                exfalso
                have := hmany (by omega) i (by omega)
                split at this <;> omega
              · try dsimp only [Ty.T] at h6
                try simp only [castL_self] at h6
                try simp only [Int.toNat_natCast] at h6
                try simp only [Int.toNat_zero] at h6
                try simp only [Bool.cond_true_left, Bool.cond_false_right, Bool.cond_true_right, Bool.cond_false_left, Bool.or_eq_true, Bool.and_eq_true, decide_eq_true_eq, Bool.or_eq_false_iff, Bool.and_eq_false_iff, decide_eq_false_iff_not, Bool.not_eq_true', Bool.not_eq_false', Bool.not_eq_eq_eq_not, Bool.not_true, Bool.not_false] at h6
                refine AWPD.skip ?_
                refine hK19 _ _ ?_
                clear hK19
                -- region 14
                refine AWPD.keep [0, 1, 2, 10, 12, 14] rfl ?_
                refine AWPD.region tabOK rfl ?_
                repeat refine And.intro (by first | exact fun h => h | exact fun _ => rfl | (intro h; rw [h]; rfl) | omega | (intros; (try dsimp only [Ty.T, Ty.size]); (try simp only [castL_self, Int.toNat_natCast, Int.toNat_zero, Int.toNat_one, true_and, List.length_append, List.length_set, List.length_drop, List.length_take, List.length_replicate, List.length_cons, List.length_nil, Nat.zero_add, Nat.mul_one]); omega) | decide | (intros; simp_all; done) | (intros; simp_all; omega)) ?_
                refine ⟨n0 - 1, i + 1, [], by omega, by omega, ⟨by decide, rfl⟩, trivial, ?_⟩
                repeat' first | exact True.intro | exact rfl | exact ⟨rfl, rfl⟩ | refine And.intro ?_ ?_
          · try dsimp only [Ty.T] at h4
            try simp only [castL_self] at h4
            try simp only [Int.toNat_natCast] at h4
            try simp only [Int.toNat_zero] at h4
            refine AWPD.exit ?_
            refine hK15 _ _ ?_
            clear hK15
            refine AWPD.seq fun K23 hK23 => ?_
            -- region 19
            refine AWPD.keep [] rfl ?_
            refine AWPD.region tabOK rfl ?_
            refine hK23 _ _ ?_
            clear hK23
            refine AWPD.ret (And.intro (.inl rfl) ?_)
            -- result 2
            refine RetD.one ?_
            exact fitB rfl rfl
end Go.Proofs.YtdikoipldcjcpaaDoor
