/-
  WALK of the law AgreeTalk.
-/
import Derived.Test.YtkdihpajgmiolaaDoorQwAl4
namespace Go.Proofs.YtkdihpajgmiolaaDoor
open Go Go.Qw
set_option maxRecDepth 10000
set_option linter.unusedSimpArgs false
set_option linter.unusedVariables false
set_option linter.unusedSectionVars false


theorem talk_zero {p q ws : List Int} {e w : Int} (h : pairE p q ws e w = 0) : talkR p q ws e w = foursL p q ws e.toNat w.toNat (talkK p q ws e.toNat w.toNat + 1) := by unfold talkR; rw [if_pos h]
theorem same_bif (a b : Int × Int) : (bif decide (a.1 = b.1) then decide (a.2 = b.2) else false) = decide (a = b) := by
  obtain ⟨a1, a2⟩ := a
  obtain ⟨b1, b2⟩ := b
  by_cases h1 : a1 = b1 <;> by_cases h2 : a2 = b2 <;> simp [h1, h2]
theorem same_row (a b : Int × Int) (r : List Int) (hr : r = [a.1, a.2, b.1, b.2]) : (bif decide (r.getD 0 0 = r.getD 2 0) then decide (r.getD 1 0 = r.getD 3 0) else false) = decide (a = b) := by
  subst hr
  exact same_bif a b
theorem first_row (a b : Int × Int) (l : List (List Int)) (n : Nat) (h : l.getD 0 [] = [a.1, a.2, b.1, b.2]) (h1 : 1 ≤ l.length) (h2 : l.length ≤ 2 * n) :
    (bif bif bif bif bif decide ((l.length : Int) < 1) then true else decide (2 * (n : Int) < (l.length : Int)) then true else decide ((l.getD 0 []).getD 0 0 ≠ ([a.1, a.2] : List Int).getD 0 0) then true else decide ((l.getD 0 []).getD 1 0 ≠ ([a.1, a.2] : List Int).getD 1 0) then true
      else decide ((l.getD 0 []).getD 2 0 ≠ ([b.1, b.2] : List Int).getD 0 0) then true else decide ((l.getD 0 []).getD 3 0 ≠ ([b.1, b.2] : List Int).getD 1 0)) = false := by
  rw [h, decide_eq_false (p := (l.length : Int) < 1) (by omega), decide_eq_false (p := 2 * (n : Int) < (l.length : Int)) (by omega)]
  simp
theorem pair_swap0 {p q ws : List Int} {e w : Int} (h : pairE p q ws e w = 0) : pairE q p ws e w = 0 := pair_zero (pair_of h).swap

theorem agreeTalk_fn (p q ws : List Int) (e w : Int) : LiftsG Tryd.prog tabG 5 [.sl .int p, .sl .int q, .sl .int ws, .i e, .i w] (.b true) := by
  refine LiftsG.of_body 147 [.tmp 10] Tryd.func5 rfl Tryd.ntmps5 (by kernel_rfl) rfl rfl fun w0 X0 hG0 => ?_
  refine AWPD.seq fun K1 hK1 => ?_
  -- region 0
  refine AWPD.keep [0, 1, 2, 3, 4] rfl ?_
  refine AWPD.region tabOK rfl ?_
  refine hK1 _ _ ?_
  clear hK1
  refine AWPD.seq fun K2 hK2 => ?_
  -- region 1
  refine AWPD.keep [0, 1, 2, 3, 4] rfl ?_
  refine AWPD.region tabOK rfl ?_
  refine Exists.intro _ (Exists.intro _ (And.intro (StepD.callG tabG_stays rfl hG0 (agreeFact_fn) rfl rfl rfl) (And.intro rfl (And.intro trivial ?_))))
  refine hK2 _ _ ?_
  clear hK2
  refine AWPD.seq fun K3 hK3 => ?_
  refine AWPD.seq fun K4 hK4 => ?_
  -- region 2
  refine AWPD.keep [0, 1, 2, 3, 4, 11] rfl ?_
  refine AWPD.region tabOK rfl ?_
  refine hK4 _ _ ?_
  clear hK4
  first | refine AWPD.condP rfl (fun h0 => ?_) (fun h0 => ?_) | refine AWPD.condN rfl (fun h0 => ?_) (fun h0 => ?_) | refine AWPD.condAP rfl (fun h0 => ?_) (fun h0 => ?_) | refine AWPD.condOP rfl (fun h0 => ?_) (fun h0 => ?_) | refine AWPD.condONN rfl (fun h0 => ?_) (fun h0 => ?_) | refine AWPD.condOPN rfl (fun h0 => ?_) (fun h0 => ?_) | refine AWPD.condA rfl (fun h0 => ?_) (fun h0 => ?_) | refine AWPD.condO rfl (fun h0 => ?_) (fun h0 => ?_) | refine AWPD.cond rfl (fun h0 => ?_) (fun h0 => ?_)
  · try dsimp only [Ty.T] at h0
    try simp only [castL_self] at h0
    try simp only [Int.toNat_natCast] at h0
    try simp only [Int.toNat_zero] at h0
    exact absurd h0 (by decide)
  · try dsimp only [Ty.T] at h0
    try simp only [castL_self] at h0
    try simp only [Int.toNat_natCast] at h0
    try simp only [Int.toNat_zero] at h0
    refine AWPD.skip ?_
    refine hK3 _ _ ?_
    clear hK3
    refine AWPD.seq fun K5 hK5 => ?_
    -- region 4
    refine AWPD.keep [0, 1, 2, 3, 4] rfl ?_
    refine AWPD.region tabOK rfl ?_
    refine Exists.intro _ (Exists.intro _ (And.intro (StepD.callG tabG_stays rfl hG0 (talk_fn _ _ _ _ _) rfl rfl rfl) (And.intro rfl (And.intro trivial ?_))))
    refine hK5 _ _ ?_
    clear hK5
    refine AWPD.seq fun K6 hK6 => ?_
    -- region 5
    refine AWPD.keep [0, 1, 2, 3, 4, 12, 13] rfl ?_
    refine AWPD.region tabOK rfl ?_
    refine Exists.intro _ (Exists.intro _ (And.intro (StepD.callG tabG_stays rfl hG0 (sureR_fn _ _ _ _ _) rfl rfl rfl) (And.intro rfl (And.intro trivial ?_))))
    repeat refine And.intro (by first | exact fun h => h | exact fun _ => rfl | (intro h; rw [h]; rfl) | omega | (intros; (try dsimp only [Ty.T, Ty.size]); (try simp only [castL_self, Int.toNat_natCast, Int.toNat_zero, Int.toNat_one, true_and, List.length_append, List.length_set, List.length_drop, List.length_take, List.length_replicate, List.length_cons, List.length_nil, Nat.zero_add, Nat.mul_one]); omega) | decide | (intros; simp_all; done) | (intros; simp_all; omega)) ?_
    refine hK6 _ _ ?_
    clear hK6
    refine AWPD.seq fun K7 hK7 => ?_
    -- region 6
    refine AWPD.keep [0, 1, 2, 3, 4, 12, 13, 14, 15] rfl ?_
    refine AWPD.region tabOK rfl ?_
    refine Exists.intro _ (Exists.intro _ (And.intro (StepD.callG tabG_stays rfl hG0 (sureR_fn _ _ _ _ _) rfl rfl rfl) (And.intro rfl (And.intro trivial ?_))))
    repeat refine And.intro (by first | exact fun h => h | exact fun _ => rfl | (intro h; rw [h]; rfl) | omega | (intros; (try dsimp only [Ty.T, Ty.size]); (try simp only [castL_self, Int.toNat_natCast, Int.toNat_zero, Int.toNat_one, true_and, List.length_append, List.length_set, List.length_drop, List.length_take, List.length_replicate, List.length_cons, List.length_nil, Nat.zero_add, Nat.mul_one]); omega) | decide | (intros; simp_all; done) | (intros; simp_all; omega)) ?_
    refine hK7 _ _ ?_
    clear hK7
    refine AWPD.seq fun K8 hK8 => ?_
    refine AWPD.seq fun K9 hK9 => ?_
    -- region 7
    refine AWPD.keep [0, 12, 13, 14, 15, 16, 17] rfl ?_
    refine AWPD.region tabOK rfl ?_
    repeat refine And.intro (by first | exact fun h => h | exact fun _ => rfl | (intro h; rw [h]; rfl) | omega | (intros; (try dsimp only [Ty.T, Ty.size]); (try simp only [castL_self, Int.toNat_natCast, Int.toNat_zero, Int.toNat_one, true_and, List.length_append, List.length_set, List.length_drop, List.length_take, List.length_replicate, List.length_cons, List.length_nil, Nat.zero_add, Nat.mul_one]); omega) | decide | (intros; simp_all; done) | (intros; simp_all; omega)) ?_
    refine hK9 _ _ ?_
    clear hK9
    first | refine AWPD.cond rfl (fun h1 => ?_) (fun h1 => ?_)
    · try dsimp only [Ty.T] at h1
      try simp only [castL_self] at h1
      try simp only [Int.toNat_natCast] at h1
      try simp only [Int.toNat_zero] at h1
      try simp only [Bool.cond_true_left, Bool.cond_false_right, Bool.cond_true_right, Bool.cond_false_left, Bool.or_eq_true, Bool.and_eq_true, decide_eq_true_eq, Bool.or_eq_false_iff, Bool.and_eq_false_iff, decide_eq_false_iff_not, Bool.not_eq_true', Bool.not_eq_false', Bool.not_eq_eq_eq_not, Bool.not_true, Bool.not_false] at h1
      refine AWPD.seq fun K10 hK10 => ?_
      -- region 8
      refine AWPD.keep [12] rfl ?_
      refine AWPD.region tabOK rfl ?_
      refine hK10 _ _ ?_
      clear hK10
      refine AWPD.ret (And.intro (.inl rfl) ?_)
      -- result 0
      refine RetD.one ?_
      refine fitB rfl ?_
      have hz : pairE p q ws e w ≠ 0 := fun hz => by
        rcases h1 with (h | h) | h
        · exact h hz
        · exact h hz
        · exact h (pair_swap0 hz)
      have : talkR p q ws e w = [] := by unfold talkR; rw [if_neg hz]
      rw [this]
      rfl
    · try dsimp only [Ty.T] at h1
      try simp only [castL_self] at h1
      try simp only [Int.toNat_natCast] at h1
      try simp only [Int.toNat_zero] at h1
      try simp only [Bool.cond_true_left, Bool.cond_false_right, Bool.cond_true_right, Bool.cond_false_left, Bool.or_eq_true, Bool.and_eq_true, decide_eq_true_eq, Bool.or_eq_false_iff, Bool.and_eq_false_iff, decide_eq_false_iff_not, Bool.not_eq_true', Bool.not_eq_false', Bool.not_eq_eq_eq_not, Bool.not_true, Bool.not_false] at h1
      have he : pairE p q ws e w = 0 := by
        simp at h1
        exact h1.1
      have pr := pair_of he
      have hwi := pr.wi
      have hem := pr.em
      have hwl := pr.wl
      have h12 := pr.wt.1
      have hww : w.toNat < ws.length := by omega
      have hTE := talk_ends pr.belP pr.belQ e.toNat hww
      have hfew := hTE.few pr.belP pr.belQ hww
      have hL := talk_zero he
      have hlen : (talkR p q ws e w).length = talkK p q ws e.toNat w.toNat + 1 := by rw [hL, foursL_len]
      have hget : ∀ j, j < (talkR p q ws e w).length → (talkR p q ws e w).getD j [] = [(tkX p q ws e.toNat w.toNat j).1, (tkX p q ws e.toNat w.toNat j).2, (tkY p q ws e.toNat w.toNat j).1, (tkY p q ws e.toNat w.toNat j).2] := fun j hj => by
        rw [hL]
        exact foursL_get p q ws e.toNat w.toNat (by omega) []
      have hx := pr.sure
      have hy := pr.swap.sure
      refine AWPD.skip ?_
      refine hK8 _ _ ?_
      clear hK8
      refine AWPD.seq fun K11 hK11 => ?_
      refine AWPD.seq fun K12 hK12 => ?_
      -- region 9
      refine AWPD.keep [0, 12, 14, 16] rfl ?_
      refine AWPD.draw tabOK [] rfl (by kernel_rfl) ?_
      repeat refine And.intro (by first | exact fun h => h | exact fun _ => rfl | (intro h; rw [h]; rfl) | omega | (intros; (try dsimp only [Ty.T, Ty.size]); (try simp only [castL_self, Int.toNat_natCast, Int.toNat_zero, Int.toNat_one, true_and, List.length_append, List.length_set, List.length_drop, List.length_take, List.length_replicate, List.length_cons, List.length_nil, Nat.zero_add, Nat.mul_one]); omega) | decide | (intros; simp_all; done) | (intros; simp_all; omega)) ?_
      refine hK12 _ _ ?_
      clear hK12
      first | refine AWPD.cond rfl (fun h2 => ?_) (fun h2 => ?_)
      · try dsimp only [Ty.T] at h2
        try simp only [castL_self] at h2
        try simp only [Int.toNat_natCast] at h2
        try simp only [Int.toNat_zero] at h2
        exfalso
        have h00 := hget 0 (by omega)
        have hx0 : tkX p q ws e.toNat w.toNat 0 = sureR p q ws e w := hx.symm
        have hy0 : tkY p q ws e.toNat w.toNat 0 = sureR q p ws e w := hy.symm
        rw [hx0, hy0] at h00
        exact absurd (h2.symm.trans (first_row (sureR p q ws e w) (sureR q p ws e w) (talkR p q ws e w) p.length h00 (by omega) (by omega))) (by decide)
      · try dsimp only [Ty.T] at h2
        try simp only [castL_self] at h2
        try simp only [Int.toNat_natCast] at h2
        try simp only [Int.toNat_zero] at h2
        refine AWPD.skip ?_
        refine hK11 _ _ ?_
        clear hK11
        refine AWPD.seq fun K13 hK13 => ?_
        refine AWPD.seq fun K14 hK14 => ?_
        -- region 11
        refine AWPD.keep [12] rfl ?_
        refine AWPD.region tabOK rfl ?_
        refine hK14 _ _ ?_
        clear hK14
        refine AWPD.block ?_
        -- LOOP 0 live [12, 18] changed [18]
        refine AWPD.loopK (σ := Nat) [12] (fun i base => (18, .i (i : Int)) :: base) (fun _ => []) (fun n i => n + i = (talkR p q ws e w).length) ((talkR p q ws e w).length) 0 [] rfl rfl (by omega) (by decide) trivial (by repeat' first | exact True.intro | exact rfl | exact ⟨rfl, rfl⟩ | refine And.intro ?_ ?_) fun n0 i hI0 => ?_
        have hn0 := hI0
        refine AWPD.seq fun K15 hK15 => ?_
        refine AWPD.seq fun K16 hK16 => ?_
        -- region 12
        refine AWPD.keep [12, 18] rfl ?_
        refine AWPD.region tabOK rfl ?_
        refine hK16 _ _ ?_
        clear hK16
        first | refine AWPD.condP rfl (fun h3 => ?_) (fun h3 => ?_) | refine AWPD.condN rfl (fun h3 => ?_) (fun h3 => ?_) | refine AWPD.condAP rfl (fun h3 => ?_) (fun h3 => ?_) | refine AWPD.condOP rfl (fun h3 => ?_) (fun h3 => ?_) | refine AWPD.condONN rfl (fun h3 => ?_) (fun h3 => ?_) | refine AWPD.condOPN rfl (fun h3 => ?_) (fun h3 => ?_) | refine AWPD.condA rfl (fun h3 => ?_) (fun h3 => ?_) | refine AWPD.condO rfl (fun h3 => ?_) (fun h3 => ?_) | refine AWPD.cond rfl (fun h3 => ?_) (fun h3 => ?_)
        · try dsimp only [Ty.T] at h3
          try simp only [castL_self] at h3
          try simp only [Int.toNat_natCast] at h3
          try simp only [Int.toNat_zero] at h3
          refine AWPD.skip ?_
          refine hK15 _ _ ?_
          clear hK15
          refine AWPD.seq fun K17 hK17 => ?_
          refine AWPD.block ?_
          refine AWPD.seq fun K18 hK18 => ?_
          -- region 14
          refine AWPD.keep [12, 18] rfl ?_
          refine AWPD.draw tabOK [] rfl (by kernel_rfl) ?_
          repeat refine And.intro (by first | exact fun h => h | exact fun _ => rfl | (intro h; rw [h]; rfl) | omega | (intros; (try dsimp only [Ty.T, Ty.size]); (try simp only [castL_self, Int.toNat_natCast, Int.toNat_zero, Int.toNat_one, true_and, List.length_append, List.length_set, List.length_drop, List.length_take, List.length_replicate, List.length_cons, List.length_nil, Nat.zero_add, Nat.mul_one]); omega) | decide | (intros; simp_all; done) | (intros; simp_all; omega)) ?_
          refine hK18 _ _ ?_
          clear hK18
          refine AWPD.seq fun K19 hK19 => ?_
          -- region 15
          refine AWPD.keep [12, 18, 19] rfl ?_
          refine AWPD.region tabOK rfl ?_
          repeat refine And.intro (by first | exact fun h => h | exact fun _ => rfl | (intro h; rw [h]; rfl) | omega | (intros; (try dsimp only [Ty.T, Ty.size]); (try simp only [castL_self, Int.toNat_natCast, Int.toNat_zero, Int.toNat_one, true_and, List.length_append, List.length_set, List.length_drop, List.length_take, List.length_replicate, List.length_cons, List.length_nil, Nat.zero_add, Nat.mul_one]); omega) | decide | (intros; simp_all; done) | (intros; simp_all; omega)) ?_
          refine hK19 _ _ ?_
          clear hK19
          first | refine AWPD.condP rfl (fun h4 => ?_) (fun h4 => ?_) | refine AWPD.condN rfl (fun h4 => ?_) (fun h4 => ?_) | refine AWPD.condAP rfl (fun h4 => ?_) (fun h4 => ?_) | refine AWPD.condOP rfl (fun h4 => ?_) (fun h4 => ?_) | refine AWPD.condONN rfl (fun h4 => ?_) (fun h4 => ?_) | refine AWPD.condOPN rfl (fun h4 => ?_) (fun h4 => ?_) | refine AWPD.condA rfl (fun h4 => ?_) (fun h4 => ?_) | refine AWPD.condO rfl (fun h4 => ?_) (fun h4 => ?_) | refine AWPD.cond rfl (fun h4 => ?_) (fun h4 => ?_)
          · try dsimp only [Ty.T] at h4
            try simp only [castL_self] at h4
            try simp only [Int.toNat_natCast] at h4
            try simp only [Int.toNat_zero] at h4
            exfalso
            have hh := hget i (by omega)
            refine h4 ((same_row (tkX p q ws e.toNat w.toNat i) (tkY p q ws e.toNat w.toNat i) _ hh).trans (decide_eq_decide.2 ?_))
            constructor
            · intro hxy
              rcases Nat.lt_or_ge i (talkK p q ws e.toNat w.toNat) with hlt | hge
              · exact absurd hxy (hTE.ne i hlt)
              · omega
            · intro hi
              rw [show i = talkK p q ws e.toNat w.toNat by omega]
              exact hTE.eq
          · try dsimp only [Ty.T] at h4
            try simp only [castL_self] at h4
            try simp only [Int.toNat_natCast] at h4
            try simp only [Int.toNat_zero] at h4
            refine AWPD.skip ?_
            refine hK17 _ _ ?_
            clear hK17
            -- region 13
            refine AWPD.keep [12, 18] rfl ?_
            refine AWPD.region tabOK rfl ?_
            repeat refine And.intro (by first | exact fun h => h | exact fun _ => rfl | (intro h; rw [h]; rfl) | omega | (intros; (try dsimp only [Ty.T, Ty.size]); (try simp only [castL_self, Int.toNat_natCast, Int.toNat_zero, Int.toNat_one, true_and, List.length_append, List.length_set, List.length_drop, List.length_take, List.length_replicate, List.length_cons, List.length_nil, Nat.zero_add, Nat.mul_one]); omega) | decide | (intros; simp_all; done) | (intros; simp_all; omega)) ?_
            refine ⟨n0 - 1, i + 1, [], by omega, by omega, ⟨by decide, rfl⟩, trivial, ?_⟩
            repeat' first | exact True.intro | exact rfl | exact ⟨rfl, rfl⟩ | refine And.intro ?_ ?_
        · try dsimp only [Ty.T] at h3
          try simp only [castL_self] at h3
          try simp only [Int.toNat_natCast] at h3
          try simp only [Int.toNat_zero] at h3
          refine AWPD.exit ?_
          refine hK13 _ _ ?_
          clear hK13
          refine AWPD.seq fun K20 hK20 => ?_
          -- region 17
          refine AWPD.keep [] rfl ?_
          refine AWPD.region tabOK rfl ?_
          refine hK20 _ _ ?_
          clear hK20
          refine AWPD.ret (And.intro (.inl rfl) ?_)
          -- result 1
          refine RetD.one ?_
          exact fitB rfl rfl
end Go.Proofs.YtkdihpajgmiolaaDoor
