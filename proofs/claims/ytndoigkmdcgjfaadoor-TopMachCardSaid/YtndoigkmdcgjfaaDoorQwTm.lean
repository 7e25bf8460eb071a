/-
  WALK of the law TopMach; and the law behind it.
-/
import Derived.Test.YtndoigkmdcgjfaaDoorQwUw
import Derived.Test.YtndoigkmdcgjfaaDoorQwBq
namespace Go.Proofs.YtndoigkmdcgjfaaDoor
open Go Go.Qw
set_option maxRecDepth 10000
set_option linter.unusedSimpArgs false
set_option linter.unusedVariables false
set_option linter.unusedSectionVars false


section
variable {P : Int} {A : List Int} {N S : List (List Int)} {f : List Int}
theorem GoodM.reach_nx (g : GoodM P A N S) {s a : Nat} (hs : (reachN N).testBit s = true) (ha : a < A.length) : (reachN N).testBit (nx N s a) = true := by
  have h1 := (g.reach_bit (x := (s : Int)) (by omega)).1 (by simpa using hs)
  have h2 := g.reach_next h1 ha
  rw [Int.toNat_natCast] at h2
  have hlt := bit_lt g.reach_lt hs
  exact (g.reach_bit (g.nx_lt hlt ha).1).2 h2
theorem GoodM.reach_0 (g : GoodM P A N S) : (reachN N).testBit 0 = true := (g.reach_bit (Int.le_refl 0)).2 (reO_zero N _)
/-- What may not act on the part makes no odds, directly. -/
theorem unw_run (g : GoodM P A N S) {part : Int} {ρ : Nat → Nat} (L : LeastV A N f part ρ) : ∀ {w : List Int} {s t : Nat}, inAll w ((A.length : Int) - 1) → (reachN N).testBit s = true → (reachN N).testBit t = true → ρ s = ρ t →
    ρ (runF N s w) = ρ (runF N t (purgeL A f part w)) ∧ (reachN N).testBit (runF N s w) = true ∧ (reachN N).testBit (runF N t (purgeL A f part w)) = true
  | [], s, t, _, hs, ht, he => ⟨he, hs, ht⟩
  | a :: w, s, t, hw, hs, ht, he => by
    have h0 := hw 0 (by simp)
    simp only [List.getD_cons_zero] at h0
    have hw' : inAll w ((A.length : Int) - 1) := fun i hi => by
      have := hw (i + 1) (by simpa using hi)
      simpa using this
    have hal : a.toNat < A.length := by omega
    have hx := g.reach_nx hs hal
    by_cases hc : actOn A f part a = true
    · have e : purgeL A f part (a :: w) = a :: purgeL A f part w := by unfold purgeL; rw [List.filter_cons, if_pos hc]
      rw [e]
      exact unw_run g L hw' hx (g.reach_nx ht hal) (L.both s t hs ht he _ hal)
    · have e : purgeL A f part (a :: w) = purgeL A f part w := by unfold purgeL; rw [List.filter_cons, if_neg hc]
      rw [e]
      refine unw_run g L hw' hx ht (Eq.trans (L.quiet s _ hs hal ?_).symm he)
      unfold qaF
      simpa [actOn] using hc
theorem holds_see {part : Int} (he : chkE P A N S f part = 0) (h : holdsB P A N S f part = true) {s t : Nat} (hs : (reachN N).testBit s = true) (ht : (reachN N).testBit t = true) (hst : vF N A f part s = vF N A f part t) (g : GoodM P A N S) : (S.getD s []).getD part.toNat 0 = (S.getD t []).getD part.toNat 0 := by
  unfold holdsB at h
  rw [decide_eq_true he, Bool.true_and] at h
  have ho : hoV P A N S f part = none := by
    cases hh : hoV P A N S f part with
    | none => rfl
    | some q => rw [hh] at h; cases h
  have hno := hO_none ho
  have ls := bit_lt g.reach_lt hs
  have lt := bit_lt g.reach_lt ht
  have e0 : 0 ≤ (viewsV P A N S f part).getD s 0 := by rw [viewsV_get he ls]; exact (num_at ls hs).1
  have e1 : (viewsV P A N S f part).getD s 0 = (viewsV P A N S f part).getD t 0 := by rw [viewsV_get he ls, viewsV_get he lt, num_iff ls lt hs ht]; exact hst
  refine Decidable.byContradiction fun hne => ?_
  rcases Nat.lt_trichotomy s t with hlt | heq | hlt
  · exact hno s t hlt lt ⟨e0, e1, hne⟩
  · exact hne (by rw [heq])
  · exact hno t s hlt ls ⟨by rw [← e1]; exact e0, e1.symm, fun hh => hne hh.symm⟩
theorem word_both {part : Int} {w : List Int} (hc : chkE P A N S f part = 0) (hw : wordE P A N S w = 0) : bothE P A N S f part w = 0 := by
  unfold bothE
  rw [if_neg (fun h => h hc)]
  exact hw
theorem runV_F {part : Int} {w : List Int} (g : GoodW P A N S f part w) : runV P A N S 0 w = ((runF N 0 w : Nat) : Int) := by
  have r1 := runF_is g.m g.m.some g.w w.length (Nat.le_refl _)
  rw [List.take_length] at r1
  unfold runV
  rw [if_pos g.run0]
  exact r1
/-- The same of those that may act on it: it sees the same, directly and through others. -/
theorem mach_parts {part : Int} {v w : List Int} (gv : GoodW P A N S f part v) (gw : GoodW P A N S f part w) (hc : chkE P A N S f part = 0) :
    (holdsB P A N S f part = true → purgeL A f part v = purgeL A f part w → (S.getD (runV P A N S 0 v).toNat []).getD part.toNat 0 = (S.getD (runV P A N S 0 w).toNat []).getD part.toNat 0) ∧
    (bholdsV P A N S f = true → betL A f part v = betL A f part w → (S.getD (runV P A N S 0 v).toNat []).getD part.toNat 0 = (S.getD (runV P A N S 0 w).toNat []).getD part.toNat 0) := by
  rw [runV_F gv, runV_F gw, Int.toNat_natCast, Int.toNat_natCast]
  have g := gv.m
  have hp := gv.part
  constructor
  · intro hh he
    have L := g.vF_least f part
    have h1 := unw_run g L gv.w g.reach_0 g.reach_0 rfl
    have h2 := unw_run g L gw.w g.reach_0 g.reach_0 rfl
    rw [← he] at h2
    exact holds_see hc hh h1.2.1 h2.2.1 (h1.1.trans h2.1.symm) g
  · intro hh he
    have c1 := rushby gv v.length (Nat.le_refl _) 0 0 g.some g.some fun _ _ _ => .refl
    have c2 := rushby gw w.length (Nat.le_refl _) 0 0 g.some g.some fun _ _ _ => .refl
    rw [Nat.sub_self, List.drop_zero] at c1 c2
    have c1 : CloB P A N f part.toNat (runF N 0 v) (runF N 0 (betL A f part v)) := c1
    have c2 : CloB P A N f part.toNat (runF N 0 w) (runF N 0 (betL A f part w)) := c2
    rw [← he] at c2
    exact (bholds_is hh).all (by omega) (runF_in g g.some gv.w) (runF_in g g.some gw.w) (c1.trans c2.symm)
end
theorem tm_one : runE 1 [0] [[1], [0]] [[0], [0]] 0 [0] = 0 ∧ runV 1 [0] [[1], [0]] [[0], [0]] 0 [0] = 1 := by decide +kernel

theorem topMach_fn (P : Int) (A : List Int) (N S : List (List Int)) (f : List Int) (part : Int) (v w : List Int) : LiftsG Tryd.prog tabG 12 [.agg [.i P, .sl .int A, .sl (.sl .int) N, .sl (.sl .int) S], .sl .int f, .i part, .sl .int v, .sl .int w] (.b true) := by
  refine LiftsG.of_body 195 [.tmp 10] Tryd.func12 rfl Tryd.ntmps12 (by kernel_rfl) rfl rfl fun w0 X0 hG0 => ?_
  refine AWPD.seq fun K1 hK1 => ?_
  -- region 0
  refine AWPD.keep [0, 1, 2, 3, 4] rfl ?_
  refine AWPD.region tabOK rfl ?_
  refine hK1 _ _ ?_
  clear hK1
  refine AWPD.seq fun K2 hK2 => ?_
  -- region 1
  refine AWPD.keep [1, 2, 3, 4, 5] rfl ?_
  refine AWPD.region tabOK rfl ?_
  refine Exists.intro _ (Exists.intro _ (And.intro (StepD.call (run_fn _ _ _ _ _ _) rfl rfl rfl) (And.intro rfl (And.intro trivial ?_))))
  refine hK2 _ _ ?_
  clear hK2
  refine AWPD.seq fun K3 hK3 => ?_
  refine AWPD.seq fun K4 hK4 => ?_
  -- region 2
  refine AWPD.keep [1, 2, 3, 4, 5, 11, 12] rfl ?_
  refine AWPD.region tabOK rfl ?_
  repeat refine And.intro (by first | exact fun h => h | exact fun _ => rfl | (intro h; rw [h]; rfl) | omega | (intros; (try dsimp only [Ty.T, Ty.size]); (try simp only [castL_self, Int.toNat_natCast, Int.toNat_zero, Int.toNat_one, true_and, List.length_append, List.length_set, List.length_drop, List.length_take, List.length_replicate, List.length_cons, List.length_nil, Nat.zero_add, Nat.mul_one]); omega) | decide | (intros; simp_all; done) | (intros; simp_all; omega)) ?_
  refine hK4 _ _ ?_
  clear hK4
  first | refine AWPD.cond rfl (fun h0 => ?_) (fun h0 => ?_)
  · try dsimp only [Ty.T] at h0
    try simp only [castL_self] at h0
    try simp only [Int.toNat_natCast] at h0
    try simp only [Int.toNat_zero] at h0
    exact absurd h0 (by rw [tm_one.1, tm_one.2]; decide)
  · try dsimp only [Ty.T] at h0
    try simp only [castL_self] at h0
    try simp only [Int.toNat_natCast] at h0
    try simp only [Int.toNat_zero] at h0
    refine AWPD.skip ?_
    refine hK3 _ _ ?_
    clear hK3
    refine AWPD.seq fun K5 hK5 => ?_
    -- region 4
    refine AWPD.keep [1, 2, 3, 4, 5] rfl ?_
    refine AWPD.region tabOK rfl ?_
    repeat refine And.intro (by first | exact fun h => h | exact fun _ => rfl | (intro h; rw [h]; rfl) | omega | (intros; (try dsimp only [Ty.T, Ty.size]); (try simp only [castL_self, Int.toNat_natCast, Int.toNat_zero, Int.toNat_one, true_and, List.length_append, List.length_set, List.length_drop, List.length_take, List.length_replicate, List.length_cons, List.length_nil, Nat.zero_add, Nat.mul_one]); omega) | decide | (intros; simp_all; done) | (intros; simp_all; omega)) ?_
    refine Exists.intro _ (Exists.intro _ (And.intro (StepD.callG tabG_stays rfl hG0 (holds_fn _ _ _ _ _ _) rfl rfl rfl) (And.intro rfl (And.intro trivial ?_))))
    refine hK5 _ _ ?_
    clear hK5
    refine AWPD.seq fun K6 hK6 => ?_
    -- region 5
    refine AWPD.keep [1, 2, 3, 4, 5, 13, 15] rfl ?_
    refine AWPD.region tabOK rfl ?_
    repeat refine And.intro (by first | exact fun h => h | exact fun _ => rfl | (intro h; rw [h]; rfl) | omega | (intros; (try dsimp only [Ty.T, Ty.size]); (try simp only [castL_self, Int.toNat_natCast, Int.toNat_zero, Int.toNat_one, true_and, List.length_append, List.length_set, List.length_drop, List.length_take, List.length_replicate, List.length_cons, List.length_nil, Nat.zero_add, Nat.mul_one]); omega) | decide | (intros; simp_all; done) | (intros; simp_all; omega)) ?_
    refine Exists.intro _ (Exists.intro _ (And.intro (StepD.call (bholds_fn _ _ _ _ _) rfl rfl rfl) (And.intro rfl (And.intro trivial ?_))))
    refine hK6 _ _ ?_
    clear hK6
    refine AWPD.seq fun K7 hK7 => ?_
    refine AWPD.seq fun K8 hK8 => ?_
    -- region 6
    refine AWPD.keep [1, 2, 3, 4, 5, 13, 15, 16, 17] rfl ?_
    refine AWPD.region tabOK rfl ?_
    repeat refine And.intro (by first | exact fun h => h | exact fun _ => rfl | (intro h; rw [h]; rfl) | omega | (intros; (try dsimp only [Ty.T, Ty.size]); (try simp only [castL_self, Int.toNat_natCast, Int.toNat_zero, Int.toNat_one, true_and, List.length_append, List.length_set, List.length_drop, List.length_take, List.length_replicate, List.length_cons, List.length_nil, Nat.zero_add, Nat.mul_one]); omega) | decide | (intros; simp_all; done) | (intros; simp_all; omega)) ?_
    refine hK8 _ _ ?_
    clear hK8
    first | refine AWPD.cond rfl (fun h1 => ?_) (fun h1 => ?_)
    · try dsimp only [Ty.T] at h1
      try simp only [castL_self] at h1
      try simp only [Int.toNat_natCast] at h1
      try simp only [Int.toNat_zero] at h1
      try simp only [Bool.cond_true_left, Bool.cond_false_right, Bool.cond_true_right, Bool.cond_false_left, Bool.or_eq_true, Bool.and_eq_true, decide_eq_true_eq, Bool.or_eq_false_iff, Bool.and_eq_false_iff, decide_eq_false_iff_not, Bool.not_eq_true', Bool.not_eq_false', Bool.not_eq_eq_eq_not, Bool.not_true, Bool.not_false] at h1
      refine AWPD.seq fun K9 hK9 => ?_
      -- region 7
      refine AWPD.keep [] rfl ?_
      refine AWPD.region tabOK rfl ?_
      refine hK9 _ _ ?_
      clear hK9
      refine AWPD.ret (And.intro (.inl rfl) ?_)
      -- result 0
      refine RetD.one ?_
      exact fitB rfl rfl
    · try dsimp only [Ty.T] at h1
      try simp only [castL_self] at h1
      try simp only [Int.toNat_natCast] at h1
      try simp only [Int.toNat_zero] at h1
      try simp only [Bool.cond_true_left, Bool.cond_false_right, Bool.cond_true_right, Bool.cond_false_left, Bool.or_eq_true, Bool.and_eq_true, decide_eq_true_eq, Bool.or_eq_false_iff, Bool.and_eq_false_iff, decide_eq_false_iff_not, Bool.not_eq_true', Bool.not_eq_false', Bool.not_eq_eq_eq_not, Bool.not_true, Bool.not_false] at h1
      have hc : chkE P A N S f part = 0 := Decidable.not_not.1 h1.1
      refine AWPD.skip ?_
      refine hK7 _ _ ?_
      clear hK7
      refine AWPD.seq fun K10 hK10 => ?_
      -- region 8
      refine AWPD.keep [1, 2, 3, 4, 5, 13, 16] rfl ?_
      refine AWPD.region tabOK rfl ?_
      repeat refine And.intro (by first | exact fun h => h | exact fun _ => rfl | (intro h; rw [h]; rfl) | omega | (intros; (try dsimp only [Ty.T, Ty.size]); (try simp only [castL_self, Int.toNat_natCast, Int.toNat_zero, Int.toNat_one, true_and, List.length_append, List.length_set, List.length_drop, List.length_take, List.length_replicate, List.length_cons, List.length_nil, Nat.zero_add, Nat.mul_one]); omega) | decide | (intros; simp_all; done) | (intros; simp_all; omega)) ?_
      refine Exists.intro _ (Exists.intro _ (And.intro (StepD.call (run_fn _ _ _ _ _ _) rfl rfl rfl) (And.intro rfl (And.intro trivial ?_))))
      refine hK10 _ _ ?_
      clear hK10
      refine AWPD.seq fun K11 hK11 => ?_
      -- region 9
      refine AWPD.keep [1, 2, 3, 4, 5, 13, 16, 18, 19] rfl ?_
      refine AWPD.region tabOK rfl ?_
      repeat refine And.intro (by first | exact fun h => h | exact fun _ => rfl | (intro h; rw [h]; rfl) | omega | (intros; (try dsimp only [Ty.T, Ty.size]); (try simp only [castL_self, Int.toNat_natCast, Int.toNat_zero, Int.toNat_one, true_and, List.length_append, List.length_set, List.length_drop, List.length_take, List.length_replicate, List.length_cons, List.length_nil, Nat.zero_add, Nat.mul_one]); omega) | decide | (intros; simp_all; done) | (intros; simp_all; omega)) ?_
      refine Exists.intro _ (Exists.intro _ (And.intro (StepD.call (run_fn _ _ _ _ _ _) rfl rfl rfl) (And.intro rfl (And.intro trivial ?_))))
      refine hK11 _ _ ?_
      clear hK11
      refine AWPD.seq fun K12 hK12 => ?_
      refine AWPD.seq fun K13 hK13 => ?_
      -- region 10
      refine AWPD.keep [1, 2, 3, 4, 5, 13, 16, 18, 19, 20, 21] rfl ?_
      refine AWPD.region tabOK rfl ?_
      repeat refine And.intro (by first | exact fun h => h | exact fun _ => rfl | (intro h; rw [h]; rfl) | omega | (intros; (try dsimp only [Ty.T, Ty.size]); (try simp only [castL_self, Int.toNat_natCast, Int.toNat_zero, Int.toNat_one, true_and, List.length_append, List.length_set, List.length_drop, List.length_take, List.length_replicate, List.length_cons, List.length_nil, Nat.zero_add, Nat.mul_one]); omega) | decide | (intros; simp_all; done) | (intros; simp_all; omega)) ?_
      refine hK13 _ _ ?_
      clear hK13
      first | refine AWPD.cond rfl (fun h2 => ?_) (fun h2 => ?_)
      · try dsimp only [Ty.T] at h2
        try simp only [castL_self] at h2
        try simp only [Int.toNat_natCast] at h2
        try simp only [Int.toNat_zero] at h2
        try simp only [Bool.cond_true_left, Bool.cond_false_right, Bool.cond_true_right, Bool.cond_false_left, Bool.or_eq_true, Bool.and_eq_true, decide_eq_true_eq, Bool.or_eq_false_iff, Bool.and_eq_false_iff, decide_eq_false_iff_not, Bool.not_eq_true', Bool.not_eq_false', Bool.not_eq_eq_eq_not, Bool.not_true, Bool.not_false] at h2
        refine AWPD.seq fun K14 hK14 => ?_
        -- region 11
        refine AWPD.keep [] rfl ?_
        refine AWPD.region tabOK rfl ?_
        refine hK14 _ _ ?_
        clear hK14
        refine AWPD.ret (And.intro (.inl rfl) ?_)
        -- result 1
        refine RetD.one ?_
        exact fitB rfl rfl
      · try dsimp only [Ty.T] at h2
        try simp only [castL_self] at h2
        try simp only [Int.toNat_natCast] at h2
        try simp only [Int.toNat_zero] at h2
        try simp only [Bool.cond_true_left, Bool.cond_false_right, Bool.cond_true_right, Bool.cond_false_left, Bool.or_eq_true, Bool.and_eq_true, decide_eq_true_eq, Bool.or_eq_false_iff, Bool.and_eq_false_iff, decide_eq_false_iff_not, Bool.not_eq_true', Bool.not_eq_false', Bool.not_eq_eq_eq_not, Bool.not_true, Bool.not_false] at h2
        have rv : runE P A N S 0 v = 0 := Decidable.not_not.1 h2.1
        have rw_ : runE P A N S 0 w = 0 := Decidable.not_not.1 h2.2
        have gv := both_ok (word_both hc (run_ok rv).1)
        have gw := both_ok (word_both hc (run_ok rw_).1)
        have hbv := word_both hc (run_ok rv).1
        have hbw := word_both hc (run_ok rw_).1
        have iv := runF_in gv.m gv.m.some gv.w
        have iw := runF_in gv.m gv.m.some gw.w
        have ev := runV_F gv
        have ew := runV_F gw
        have hMP := mach_parts gv gw hc
        have hlS := gv.m.lenS
        have hpp := gv.part
        have s1 := gv.m.rowS (runV P A N S 0 v).toNat (by omega)
        have s2 := gv.m.rowS (runV P A N S 0 w).toNat (by omega)
        have l1 := purgeL_len A f part v
        have l2 := purgeL_len A f part w
        have l3 := betL_len A f part v
        have l4 := betL_len A f part w
        have f1 := gv.few
        have f2 := gw.few
        have p1 : purgeV P A N S f part v = purgeL A f part v := by unfold purgeV; rw [if_pos hbv]
        have p2 : purgeV P A N S f part w = purgeL A f part w := by unfold purgeV; rw [if_pos hbw]
        have p3 : betV P A N S f part v = betL A f part v := by unfold betV; rw [if_pos hbv]
        have p4 : betV P A N S f part w = betL A f part w := by unfold betV; rw [if_pos hbw]
        refine AWPD.skip ?_
        refine hK12 _ _ ?_
        clear hK12
        refine AWPD.seq fun K15 hK15 => ?_
        refine AWPD.seq fun K16 hK16 => ?_
        -- region 12
        refine AWPD.keep [1, 2, 3, 4, 5, 13, 16, 18, 20] rfl ?_
        refine AWPD.region tabOK rfl ?_
        repeat refine And.intro (by first | exact fun h => h | exact fun _ => rfl | (intro h; rw [h]; rfl) | omega | (intros; (try dsimp only [Ty.T, Ty.size]); (try simp only [castL_self, Int.toNat_natCast, Int.toNat_zero, Int.toNat_one, true_and, List.length_append, List.length_set, List.length_drop, List.length_take, List.length_replicate, List.length_cons, List.length_nil, Nat.zero_add, Nat.mul_one]); omega) | decide | (intros; simp_all; done) | (intros; simp_all; omega)) ?_
        refine hK16 _ _ ?_
        clear hK16
        first | refine AWPD.cond rfl (fun h3 => ?_) (fun h3 => ?_)
        · try dsimp only [Ty.T] at h3
          try simp only [castL_self] at h3
          try simp only [Int.toNat_natCast] at h3
          try simp only [Int.toNat_zero] at h3
          try simp only [Bool.cond_true_left, Bool.cond_false_right, Bool.cond_true_right, Bool.cond_false_left, Bool.or_eq_true, Bool.and_eq_true, decide_eq_true_eq, Bool.or_eq_false_iff, Bool.and_eq_false_iff, decide_eq_false_iff_not, Bool.not_eq_true', Bool.not_eq_false', Bool.not_eq_eq_eq_not, Bool.not_true, Bool.not_false] at h3
          exfalso
          omega
        · try dsimp only [Ty.T] at h3
          try simp only [castL_self] at h3
          try simp only [Int.toNat_natCast] at h3
          try simp only [Int.toNat_zero] at h3
          try simp only [Bool.cond_true_left, Bool.cond_false_right, Bool.cond_true_right, Bool.cond_false_left, Bool.or_eq_true, Bool.and_eq_true, decide_eq_true_eq, Bool.or_eq_false_iff, Bool.and_eq_false_iff, decide_eq_false_iff_not, Bool.not_eq_true', Bool.not_eq_false', Bool.not_eq_eq_eq_not, Bool.not_true, Bool.not_false] at h3
          refine AWPD.skip ?_
          refine hK15 _ _ ?_
          clear hK15
          refine AWPD.seq fun K17 hK17 => ?_
          -- region 14
          refine AWPD.keep [1, 2, 3, 4, 5, 13, 16, 18, 20] rfl ?_
          refine AWPD.region tabOK rfl ?_
          repeat refine And.intro (by first | exact fun h => h | exact fun _ => rfl | (intro h; rw [h]; rfl) | omega | (intros; (try dsimp only [Ty.T, Ty.size]); (try simp only [castL_self, Int.toNat_natCast, Int.toNat_zero, Int.toNat_one, true_and, List.length_append, List.length_set, List.length_drop, List.length_take, List.length_replicate, List.length_cons, List.length_nil, Nat.zero_add, Nat.mul_one]); omega) | decide | (intros; simp_all; done) | (intros; simp_all; omega)) ?_
          refine Exists.intro _ (Exists.intro _ (And.intro (StepD.call (purge_fn _ _ _ _ _ _ _) rfl rfl rfl) (And.intro rfl (And.intro trivial ?_))))
          refine hK17 _ _ ?_
          clear hK17
          refine AWPD.seq fun K18 hK18 => ?_
          -- region 15
          refine AWPD.keep [1, 2, 3, 4, 5, 13, 16, 18, 20, 22, 23] rfl ?_
          refine AWPD.region tabOK rfl ?_
          repeat refine And.intro (by first | exact fun h => h | exact fun _ => rfl | (intro h; rw [h]; rfl) | omega | (intros; (try dsimp only [Ty.T, Ty.size]); (try simp only [castL_self, Int.toNat_natCast, Int.toNat_zero, Int.toNat_one, true_and, List.length_append, List.length_set, List.length_drop, List.length_take, List.length_replicate, List.length_cons, List.length_nil, Nat.zero_add, Nat.mul_one]); omega) | decide | (intros; simp_all; done) | (intros; simp_all; omega)) ?_
          refine Exists.intro _ (Exists.intro _ (And.intro (StepD.call (purge_fn _ _ _ _ _ _ _) rfl rfl rfl) (And.intro rfl (And.intro trivial ?_))))
          refine hK18 _ _ ?_
          clear hK18
          refine AWPD.seq fun K19 hK19 => ?_
          -- region 16
          refine AWPD.keep [1, 2, 3, 4, 5, 13, 16, 18, 20, 22, 23, 24, 25] rfl ?_
          refine AWPD.region tabOK rfl ?_
          repeat refine And.intro (by first | exact fun h => h | exact fun _ => rfl | (intro h; rw [h]; rfl) | omega | (intros; (try dsimp only [Ty.T, Ty.size]); (try simp only [castL_self, Int.toNat_natCast, Int.toNat_zero, Int.toNat_one, true_and, List.length_append, List.length_set, List.length_drop, List.length_take, List.length_replicate, List.length_cons, List.length_nil, Nat.zero_add, Nat.mul_one]); omega) | decide | (intros; simp_all; done) | (intros; simp_all; omega)) ?_
          refine Exists.intro _ (Exists.intro _ (And.intro (StepD.call (bpurge_fn _ _ _ _ _ _ _) rfl rfl rfl) (And.intro rfl (And.intro trivial ?_))))
          refine hK19 _ _ ?_
          clear hK19
          refine AWPD.seq fun K20 hK20 => ?_
          -- region 17
          refine AWPD.keep [1, 2, 4, 5, 13, 16, 18, 20, 22, 23, 24, 25, 26, 27] rfl ?_
          refine AWPD.region tabOK rfl ?_
          repeat refine And.intro (by first | exact fun h => h | exact fun _ => rfl | (intro h; rw [h]; rfl) | omega | (intros; (try dsimp only [Ty.T, Ty.size]); (try simp only [castL_self, Int.toNat_natCast, Int.toNat_zero, Int.toNat_one, true_and, List.length_append, List.length_set, List.length_drop, List.length_take, List.length_replicate, List.length_cons, List.length_nil, Nat.zero_add, Nat.mul_one]); omega) | decide | (intros; simp_all; done) | (intros; simp_all; omega)) ?_
          refine Exists.intro _ (Exists.intro _ (And.intro (StepD.call (bpurge_fn _ _ _ _ _ _ _) rfl rfl rfl) (And.intro rfl (And.intro trivial ?_))))
          refine hK20 _ _ ?_
          clear hK20
          refine AWPD.seq fun K21 hK21 => ?_
          refine AWPD.seq fun K22 hK22 => ?_
          -- region 18
          refine AWPD.keep [2, 5, 13, 16, 18, 20, 22, 23, 24, 25, 26, 27, 28, 29] rfl ?_
          refine AWPD.region tabOK rfl ?_
          repeat refine And.intro (by first | exact fun h => h | exact fun _ => rfl | (intro h; rw [h]; rfl) | omega | (intros; (try dsimp only [Ty.T, Ty.size]); (try simp only [castL_self, Int.toNat_natCast, Int.toNat_zero, Int.toNat_one, true_and, List.length_append, List.length_set, List.length_drop, List.length_take, List.length_replicate, List.length_cons, List.length_nil, Nat.zero_add, Nat.mul_one]); omega) | decide | (intros; simp_all; done) | (intros; simp_all; omega)) ?_
          refine hK22 _ _ ?_
          clear hK22
          first | refine AWPD.cond rfl (fun h4 => ?_) (fun h4 => ?_)
          · try dsimp only [Ty.T] at h4
            try simp only [castL_self] at h4
            try simp only [Int.toNat_natCast] at h4
            try simp only [Int.toNat_zero] at h4
            exfalso
            rw [hbv, hbw] at h4
            exact absurd h4 (by decide)
          · try dsimp only [Ty.T] at h4
            try simp only [castL_self] at h4
            try simp only [Int.toNat_natCast] at h4
            try simp only [Int.toNat_zero] at h4
            refine AWPD.skip ?_
            refine hK21 _ _ ?_
            clear hK21
            refine AWPD.seq fun K23 hK23 => ?_
            -- region 20
            refine AWPD.keep [2, 5, 13, 16, 18, 20, 22, 24, 26, 28] rfl ?_
            refine AWPD.draw tabOK [] rfl (by kernel_rfl) ?_
            repeat refine And.intro (by first | exact fun h => h | exact fun _ => rfl | (intro h; rw [h]; rfl) | omega | (intros; (try dsimp only [Ty.T, Ty.size]); (try simp only [castL_self, Int.toNat_natCast, Int.toNat_zero, Int.toNat_one, true_and, List.length_append, List.length_set, List.length_drop, List.length_take, List.length_replicate, List.length_cons, List.length_nil, Nat.zero_add, Nat.mul_one]); omega) | decide | (intros; simp_all; done) | (intros; simp_all; omega)) ?_
            refine hK23 _ _ ?_
            clear hK23
            refine AWPD.seq fun K24 hK24 => ?_
            -- region 21
            rw [p1, p2, p3, p4]
            refine AWPD.keep [13, 16, 22, 24, 26, 28, 30] rfl ?_
            refine AWPD.region tabOK rfl ?_
            repeat refine And.intro (by first | exact fun h => h | exact fun _ => rfl | (intro h; rw [h]; rfl) | omega | (intros; (try dsimp only [Ty.T, Ty.size]); (try simp only [castL_self, Int.toNat_natCast, Int.toNat_zero, Int.toNat_one, true_and, List.length_append, List.length_set, List.length_drop, List.length_take, List.length_replicate, List.length_cons, List.length_nil, Nat.zero_add, Nat.mul_one]); omega) | decide | (intros; simp_all; done) | (intros; simp_all; omega)) ?_
            refine Exists.intro _ (Exists.intro _ (And.intro (fun hg => StepD.call (ints_fn _ _ (by omega)) rfl rfl rfl) (And.intro (fun hf => rfl) (And.intro rfl (And.intro trivial ?_)))))
            repeat refine And.intro (by first | exact fun h => h | exact fun _ => rfl | (intro h; rw [h]; rfl) | omega | (intros; (try dsimp only [Ty.T, Ty.size]); (try simp only [castL_self, Int.toNat_natCast, Int.toNat_zero, Int.toNat_one, true_and, List.length_append, List.length_set, List.length_drop, List.length_take, List.length_replicate, List.length_cons, List.length_nil, Nat.zero_add, Nat.mul_one]); omega) | decide | (intros; simp_all; done) | (intros; simp_all; omega)) ?_
            refine Exists.intro _ (Exists.intro _ (And.intro (fun hg => StepD.call (ints_fn _ _ (by omega)) rfl rfl rfl) (And.intro (fun hf => rfl) (And.intro rfl (And.intro trivial ?_)))))
            repeat refine And.intro (by first | exact fun h => h | exact fun _ => rfl | (intro h; rw [h]; rfl) | omega | (intros; (try dsimp only [Ty.T, Ty.size]); (try simp only [castL_self, Int.toNat_natCast, Int.toNat_zero, Int.toNat_one, true_and, List.length_append, List.length_set, List.length_drop, List.length_take, List.length_replicate, List.length_cons, List.length_nil, Nat.zero_add, Nat.mul_one]); omega) | decide | (intros; simp_all; done) | (intros; simp_all; omega)) ?_
            refine hK24 _ _ ?_
            clear hK24
            refine AWPD.ret (And.intro (.inl rfl) ?_)
            -- result 2
            refine RetD.one ?_
            refine fitB rfl ?_
            obtain ⟨m1, m2⟩ := hMP
            have q1 : (bif bif !holdsB P A N S f part then true else !decide (purgeL A f part v = purgeL A f part w) then true else decide ((S.getD (runV P A N S 0 v).toNat []).getD part.toNat 0 = (S.getD (runV P A N S 0 w).toNat []).getD part.toNat 0)) = true := by
              cases hh : holdsB P A N S f part with
              | false => rfl
              | true =>
                by_cases he : purgeL A f part v = purgeL A f part w
                · rw [decide_eq_true (m1 hh he)]; simp
                · simp [he]
            have q2 : (bif bif !bholdsV P A N S f then true else !decide (betL A f part v = betL A f part w) then true else decide ((S.getD (runV P A N S 0 v).toNat []).getD part.toNat 0 = (S.getD (runV P A N S 0 w).toNat []).getD part.toNat 0)) = true := by
              cases hh : bholdsV P A N S f with
              | false => rfl
              | true =>
                by_cases he : betL A f part v = betL A f part w
                · rw [decide_eq_true (m2 hh he)]; simp
                · simp [he]
            exact (congrArg (fun z : Bool => bif z then _ else false) q1).trans q2
end Go.Proofs.YtndoigkmdcgjfaaDoor
