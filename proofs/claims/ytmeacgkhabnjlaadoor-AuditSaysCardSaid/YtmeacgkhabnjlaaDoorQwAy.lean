/-
  WALK of the law AuditGives. Laid by a program of mine out of the operations, with the loops and results told by hand.
-/
import Derived.Test.YtmeacgkhabnjlaaDoorQwAx
namespace Go.Proofs.YtmeacgkhabnjlaaDoor
open Go Go.Qw
set_option maxRecDepth 10000
set_option linter.unusedSimpArgs false
set_option linter.unusedVariables false
set_option linter.unusedSectionVars false


theorem par_split {x b a : Nat} : parB ((x ^^^ b) &&& a) = (parB (a &&& x) ^^ parB (a &&& b)) := by rw [Nat.and_xor_distrib_right, par_xor, Nat.and_comm x, Nat.and_comm b]
theorem twin_none {z : Int} {asks : List Int} {bits s : Int} (hs : tellV z asks s = true) : twinO z asks bits s = none := by
  cases h : twinO z asks bits s with
  | none => rfl
  | some x =>
    exfalso
    obtain ⟨_, h2, _⟩ := first_some h
    obtain ⟨h3, h4⟩ := twOK_iff.1 h2
    have hc : cutV (ofV asks).1 s.toNat = 0 := by
      unfold tellV at hs
      simp only [Bool.and_eq_true, decide_eq_true_eq] at hs
      exact hs.2
    have := tells_lin (par_lin (x ^^^ bits.toNat)) (asks := asks) (fun j hj => by show parB _ = false; rw [Nat.and_comm]; exact h4 j hj) hc
    have this : parB (s.toNat &&& (x ^^^ bits.toNat)) = false := this
    rw [Nat.and_comm, h3] at this
    cases this
theorem twin_some {z : Int} {asks : List Int} {bits s : Int} (hs : tellE z asks s = 0) (hb : tellE z asks bits = 0) (hv : ¬tellV z asks s = true) : ∃ x, twinO z asks bits s = some x ∧ x < 2 ^ z.toNat ∧ twOK asks bits s x = true := by
  obtain ⟨he, m1⟩ := tell_ok hs
  have m1 := mask_in m1
  have m2 := mask_in (tell_ok hb).2
  have g := ask_ok he
  have hc : cutV (ofV asks).1 s.toNat ≠ 0 := fun hc => hv (by unfold tellV; rw [decide_eq_true hs, decide_eq_true hc]; rfl)
  obtain ⟨x, h1, h2, h3⟩ := g.a.other m1.2 hc
  have hlt : x ^^^ bits.toNat < 2 ^ z.toNat := Nat.xor_lt_two_pow h1 m2.2
  have hx : (x ^^^ bits.toNat) ^^^ bits.toNat = x := by rw [Nat.xor_assoc, Nat.xor_self, Nat.xor_zero]
  have hok : twOK asks bits s (x ^^^ bits.toNat) = true := twOK_iff.2 ⟨by rw [hx, Nat.and_comm]; exact h2, fun j hj => by rw [hx, Nat.and_comm]; exact h3 j hj⟩
  cases h : twinO z asks bits s with
  | none => have := first_none h hlt; rw [hok] at this; cases this
  | some y => exact ⟨y, rfl, (first_some h).1, (first_some h).2.1⟩
theorem twin_err {z : Int} {asks : List Int} {bits s : Int} (h : tellE z asks s ≠ 0 ∨ tellE z asks bits ≠ 0) : twinE z asks bits s ≠ 0 ∧ twinV z asks bits s = 0 := by
  have h1 : twinE z asks bits s ≠ 0 := by
    unfold twinE
    by_cases he : askE z asks = 0
    · rw [if_pos he, if_neg]
      · decide
      · rintro ⟨a, b⟩
        unfold tellE at h
        rw [if_pos he, if_pos he, if_pos a, if_pos b] at h
        omega
    · rw [if_neg he]; exact he
  exact ⟨h1, by unfold twinV; rw [if_neg h1]⟩
theorem twin_same {asks : List Int} {bits s : Int} {x : Nat} (h : twOK asks bits s x = true) : ansL asks bits asks.length = ansL asks (x : Int) asks.length ∧ popN (s.toNat &&& bits.toNat) % 2 ≠ popN (s.toNat &&& x) % 2 := by
  obtain ⟨h1, h2⟩ := twOK_iff.1 h
  constructor
  · unfold ansL
    refine List.map_congr_left fun j hj => ?_
    have hj := List.mem_range.1 hj
    have h3 := h2 j hj
    rw [par_split] at h3
    unfold odV
    rw [Int.toNat_natCast]
    refine congrArg Int.ofNat (par_eq.1 ?_)
    cases ha : parB ((asks.getD j 0).toNat &&& x) <;> cases hb : parB ((asks.getD j 0).toNat &&& bits.toNat) <;> rw [ha, hb] at h3 <;> first | rfl | cases h3
  · intro hh
    rw [par_split, par_eq.2 hh] at h1
    cases hb : parB (s.toNat &&& x) <;> rw [hb] at h1 <;> cases h1

theorem auditGives_fn (z : Int) (asks : List Int) (bits s : Int) : LiftsG Tryd.prog errG 3 [.i z, .sl .int asks, .i bits, .i s] (.b true) := by
  refine LiftsG.of_body 95 [.tmp 8] Tryd.func3 rfl Tryd.ntmps3 (by kernel_rfl) rfl rfl fun w0 X0 hG0 => ?_
  refine AWPD.seq fun K1 hK1 => ?_
  -- region 0
  refine AWPD.keep [0, 1, 2, 3] rfl ?_
  refine AWPD.region tabOK rfl ?_
  refine hK1 _ _ ?_
  clear hK1
  refine AWPD.seq fun K2 hK2 => ?_
  -- region 1
  refine AWPD.keep [0, 1, 2, 3] rfl ?_
  refine AWPD.region tabOK rfl ?_
  refine Exists.intro _ (Exists.intro _ (And.intro (StepD.call (auditFact_fn) rfl rfl rfl) (And.intro rfl (And.intro trivial ?_))))
  refine hK2 _ _ ?_
  clear hK2
  refine AWPD.seq fun K3 hK3 => ?_
  refine AWPD.seq fun K4 hK4 => ?_
  -- region 2
  refine AWPD.keep [0, 1, 2, 3, 9] rfl ?_
  refine AWPD.region tabOK rfl ?_
  refine hK4 _ _ ?_
  clear hK4
  first | refine AWPD.condP rfl (fun h0 => ?_) (fun h0 => ?_) | refine AWPD.condN rfl (fun h0 => ?_) (fun h0 => ?_) | refine AWPD.condAP rfl (fun h0 => ?_) (fun h0 => ?_) | refine AWPD.condOP rfl (fun h0 => ?_) (fun h0 => ?_) | refine AWPD.condONN rfl (fun h0 => ?_) (fun h0 => ?_) | refine AWPD.condOPN rfl (fun h0 => ?_) (fun h0 => ?_) | refine AWPD.condA rfl (fun h0 => ?_) (fun h0 => ?_) | refine AWPD.condO rfl (fun h0 => ?_) (fun h0 => ?_) | refine AWPD.cond rfl (fun h0 => ?_) (fun h0 => ?_)
  · try dsimp only [Ty.T] at h0
    try simp only [castL_self] at h0
    try simp only [Int.toNat_natCast] at h0
    try simp only [Int.toNat_zero] at h0
    exact absurd h0 (by decide)
  · try dsimp only [Ty.T] at h0
    try simp only [castL_self] at h0
    try simp only [Int.toNat_natCast] at h0
    try simp only [Int.toNat_zero] at h0
    refine AWPD.skip ?_
    refine hK3 _ _ ?_
    clear hK3
    refine AWPD.seq fun K5 hK5 => ?_
    -- region 4
    refine AWPD.keep [0, 1, 2, 3] rfl ?_
    refine AWPD.region tabOK rfl ?_
    refine Exists.intro _ (Exists.intro _ (And.intro (StepD.call (tells_fn _ _ _) rfl rfl rfl) (And.intro rfl (And.intro trivial ?_))))
    refine hK5 _ _ ?_
    clear hK5
    refine AWPD.seq fun K6 hK6 => ?_
    -- region 5
    refine AWPD.keep [0, 1, 2, 3, 10, 11] rfl ?_
    refine AWPD.region tabOK rfl ?_
    refine Exists.intro _ (Exists.intro _ (And.intro (StepD.call (answers_fn _ _ _) rfl rfl rfl) (And.intro rfl (And.intro trivial ?_))))
    refine hK6 _ _ ?_
    clear hK6
    refine AWPD.seq fun K7 hK7 => ?_
    -- region 6
    refine AWPD.keep [0, 1, 2, 3, 10, 11, 12, 13] rfl ?_
    refine AWPD.region tabOK rfl ?_
    refine Exists.intro _ (Exists.intro _ (And.intro (StepD.call (twin_fn _ _ _ _) rfl rfl rfl) (And.intro rfl (And.intro trivial ?_))))
    refine hK7 _ _ ?_
    clear hK7
    refine AWPD.seq fun K8 hK8 => ?_
    refine AWPD.seq fun K9 hK9 => ?_
    -- region 7
    refine AWPD.keep [0, 1, 2, 3, 10, 11, 12, 13, 14, 15] rfl ?_
    refine AWPD.region tabOK rfl ?_
    repeat refine And.intro (by first | exact fun h => h | exact fun _ => rfl | (intro h; rw [h]; rfl) | omega | (intros; (try dsimp only [Ty.T, Ty.size]); (try simp only [castL_self, Int.toNat_natCast, Int.toNat_zero, Int.toNat_one, true_and, List.length_append, List.length_set, List.length_drop, List.length_take, List.length_replicate, List.length_cons, List.length_nil, Nat.zero_add, Nat.mul_one]); omega) | decide | (intros; simp_all; done) | (intros; simp_all; omega)) ?_
    refine hK9 _ _ ?_
    clear hK9
    first | refine AWPD.condP rfl (fun h1 => ?_) (fun h1 => ?_) | refine AWPD.condN rfl (fun h1 => ?_) (fun h1 => ?_) | refine AWPD.condAP rfl (fun h1 => ?_) (fun h1 => ?_) | refine AWPD.condOP rfl (fun h1 => ?_) (fun h1 => ?_) | refine AWPD.condONN rfl (fun h1 => ?_) (fun h1 => ?_) | refine AWPD.condOPN rfl (fun h1 => ?_) (fun h1 => ?_) | refine AWPD.condA rfl (fun h1 => ?_) (fun h1 => ?_) | refine AWPD.condO rfl (fun h1 => ?_) (fun h1 => ?_) | refine AWPD.cond rfl (fun h1 => ?_) (fun h1 => ?_)
    · try dsimp only [Ty.T] at h1
      try simp only [castL_self] at h1
      try simp only [Int.toNat_natCast] at h1
      try simp only [Int.toNat_zero] at h1
      have hte := twin_err (bits := bits) (s := s) h1
      refine AWPD.seq fun K10 hK10 => ?_
      -- region 8
      refine AWPD.keep [14, 15] rfl ?_
      refine AWPD.region tabOK rfl ?_
      repeat refine And.intro (by first | exact fun h => h | exact fun _ => rfl | (intro h; rw [h]; rfl) | omega | (intros; (try dsimp only [Ty.T, Ty.size]); (try simp only [castL_self, Int.toNat_natCast, Int.toNat_zero, Int.toNat_one, true_and, List.length_append, List.length_set, List.length_drop, List.length_take, List.length_replicate, List.length_cons, List.length_nil, Nat.zero_add, Nat.mul_one]); omega) | decide | (intros; simp_all; done) | (intros; simp_all; omega)) ?_
      refine hK10 _ _ ?_
      clear hK10
      refine AWPD.ret (And.intro (.inl rfl) ?_)
      -- result 0
      refine RetD.one ?_
      exact fitB rfl (by rw [hte.2]; simp [hte.1])
    · try dsimp only [Ty.T] at h1
      try simp only [castL_self] at h1
      try simp only [Int.toNat_natCast] at h1
      try simp only [Int.toNat_zero] at h1
      have ht : tellE z asks s = 0 ∧ tellE z asks bits = 0 := ⟨Decidable.not_not.1 h1.1, Decidable.not_not.1 h1.2⟩
      obtain ⟨ht1, ht2⟩ := ht
      obtain ⟨he, hm1⟩ := tell_ok ht1
      have hm2 := (tell_ok ht2).2
      have g := ask_ok he
      have gz := g.n0
      have i1 := tell_in ht1
      have i2 := tell_in ht2
      have l1 := ansV_len z g.len bits
      refine AWPD.skip ?_
      refine hK8 _ _ ?_
      clear hK8
      refine AWPD.seq fun K11 hK11 => ?_
      refine AWPD.seq fun K12 hK12 => ?_
      -- region 9
      refine AWPD.keep [0, 1, 2, 3, 10, 12, 14, 15] rfl ?_
      refine AWPD.region tabOK rfl ?_
      refine hK12 _ _ ?_
      clear hK12
      first | refine AWPD.cond rfl (fun h2 => ?_) (fun h2 => ?_)
      · try dsimp only [Ty.T] at h2
        try simp only [castL_self] at h2
        try simp only [Int.toNat_natCast] at h2
        try simp only [Int.toNat_zero] at h2
        have hn := twin_none (bits := bits) h2
        have hE : twinE z asks bits s = 5 := by unfold twinE; rw [if_pos he, if_pos ⟨hm2, hm1⟩, hn]; rfl
        have hV : twinV z asks bits s = 0 := by unfold twinV; rw [hE]; rfl
        refine AWPD.seq fun K13 hK13 => ?_
        -- region 10
        rw [hE, hV]
        refine AWPD.keep [14, 15] rfl ?_
        refine AWPD.region tabOK rfl ?_
        refine Exists.intro _ (Exists.intro _ (And.intro (StepD.callG errG_stays rfl hG0 (error_fn _ _) rfl rfl rfl) (And.intro rfl (And.intro trivial ?_))))
        repeat refine And.intro (by first | exact fun h => h | exact fun _ => rfl | (intro h; rw [h]; rfl) | omega | (intros; (try dsimp only [Ty.T, Ty.size]); (try simp only [castL_self, Int.toNat_natCast, Int.toNat_zero, Int.toNat_one, true_and, List.length_append, List.length_set, List.length_drop, List.length_take, List.length_replicate, List.length_cons, List.length_nil, Nat.zero_add, Nat.mul_one]); omega) | decide | (intros; simp_all; done) | (intros; simp_all; omega)) ?_
        refine hK13 _ _ ?_
        clear hK13
        refine AWPD.ret (And.intro (.inl rfl) ?_)
        -- result 1
        refine RetD.one ?_
        exact fitB rfl rfl
      · try dsimp only [Ty.T] at h2
        try simp only [castL_self] at h2
        try simp only [Int.toNat_natCast] at h2
        try simp only [Int.toNat_zero] at h2
        obtain ⟨x, hx1, hx2, hx3⟩ := twin_some (bits := bits) ht1 ht2 (by rw [h2]; decide)
        have hE : twinE z asks bits s = 0 := by unfold twinE; rw [if_pos he, if_pos ⟨hm2, hm1⟩, hx1]; rfl
        have hV : twinV z asks bits s = (x : Int) := by unfold twinV; rw [if_pos hE, hx1]; rfl
        have hpp := pow12 (n := z.toNat) (by omega)
        have hmx : maskB (x : Int) z = true := decide_eq_true (by omega)
        have ht3 : tellE z asks (x : Int) = 0 := by unfold tellE; rw [if_pos he, if_pos hmx]
        have l2 := ansV_len z g.len (x : Int)
        obtain ⟨hs1, hs2⟩ := twin_same hx3
        have ha1 : ansV z asks bits = ansV z asks (x : Int) := by unfold ansV; rw [if_pos ht2, if_pos ht3, hs1]
        refine AWPD.skip ?_
        refine hK11 _ _ ?_
        clear hK11
        refine AWPD.seq fun K14 hK14 => ?_
        refine AWPD.seq fun K15 hK15 => ?_
        -- region 11
        rw [hE, hV]
        refine AWPD.keep [0, 1, 2, 3, 12, 14, 15] rfl ?_
        refine AWPD.region tabOK rfl ?_
        repeat refine And.intro (by first | exact fun h => h | exact fun _ => rfl | (intro h; rw [h]; rfl) | omega | (intros; (try dsimp only [Ty.T, Ty.size]); (try simp only [castL_self, Int.toNat_natCast, Int.toNat_zero, Int.toNat_one, true_and, List.length_append, List.length_set, List.length_drop, List.length_take, List.length_replicate, List.length_cons, List.length_nil, Nat.zero_add, Nat.mul_one]); omega) | decide | (intros; simp_all; done) | (intros; simp_all; omega)) ?_
        refine hK15 _ _ ?_
        clear hK15
        first | refine AWPD.cond rfl (fun h3 => ?_) (fun h3 => ?_)
        · try dsimp only [Ty.T] at h3
          try simp only [castL_self] at h3
          try simp only [Int.toNat_natCast] at h3
          try simp only [Int.toNat_zero] at h3
          exfalso; simp at h3; omega
        · try dsimp only [Ty.T] at h3
          try simp only [castL_self] at h3
          try simp only [Int.toNat_natCast] at h3
          try simp only [Int.toNat_zero] at h3
          refine AWPD.skip ?_
          refine hK14 _ _ ?_
          clear hK14
          refine AWPD.seq fun K16 hK16 => ?_
          -- region 13
          refine AWPD.keep [0, 1, 2, 3, 12, 14] rfl ?_
          refine AWPD.region tabOK rfl ?_
          refine Exists.intro _ (Exists.intro _ (And.intro (StepD.call (answers_fn _ _ _) rfl rfl rfl) (And.intro rfl (And.intro trivial ?_))))
          refine hK16 _ _ ?_
          clear hK16
          refine AWPD.seq fun K17 hK17 => ?_
          -- region 14
          refine AWPD.keep [2, 3, 12, 14, 16, 17] rfl ?_
          refine AWPD.region tabOK rfl ?_
          repeat refine And.intro (by first | exact fun h => h | exact fun _ => rfl | (intro h; rw [h]; rfl) | omega | (intros; (try dsimp only [Ty.T, Ty.size]); (try simp only [castL_self, Int.toNat_natCast, Int.toNat_zero, Int.toNat_one, true_and, List.length_append, List.length_set, List.length_drop, List.length_take, List.length_replicate, List.length_cons, List.length_nil, Nat.zero_add, Nat.mul_one]); omega) | decide | (intros; simp_all; done) | (intros; simp_all; omega)) ?_
          refine Exists.intro _ (Exists.intro _ (And.intro (fun hg => StepD.call (ints_fn _ _ (by omega)) rfl rfl rfl) (And.intro (fun hf => rfl) (And.intro rfl (And.intro trivial ?_)))))
          repeat refine And.intro (by first | exact fun h => h | exact fun _ => rfl | (intro h; rw [h]; rfl) | omega | (intros; (try dsimp only [Ty.T, Ty.size]); (try simp only [castL_self, Int.toNat_natCast, Int.toNat_zero, Int.toNat_one, true_and, List.length_append, List.length_set, List.length_drop, List.length_take, List.length_replicate, List.length_cons, List.length_nil, Nat.zero_add, Nat.mul_one]); omega) | decide | (intros; simp_all; done) | (intros; simp_all; omega)) ?_
          refine Exists.intro _ (Exists.intro _ (And.intro (fun hg => StepD.call (odd_fn _ _ (by omega) (by omega)) rfl rfl rfl) (And.intro (fun hf => rfl) (And.intro rfl (And.intro trivial ?_)))))
          repeat refine And.intro (by first | exact fun h => h | exact fun _ => rfl | (intro h; rw [h]; rfl) | omega | (intros; (try dsimp only [Ty.T, Ty.size]); (try simp only [castL_self, Int.toNat_natCast, Int.toNat_zero, Int.toNat_one, true_and, List.length_append, List.length_set, List.length_drop, List.length_take, List.length_replicate, List.length_cons, List.length_nil, Nat.zero_add, Nat.mul_one]); omega) | decide | (intros; simp_all; done) | (intros; simp_all; omega)) ?_
          refine Exists.intro _ (Exists.intro _ (And.intro (fun hg => StepD.call (odd_fn _ _ (by omega) (by omega)) rfl rfl rfl) (And.intro (fun hf => rfl) (And.intro rfl (And.intro trivial ?_)))))
          repeat refine And.intro (by first | exact fun h => h | exact fun _ => rfl | (intro h; rw [h]; rfl) | omega | (intros; (try dsimp only [Ty.T, Ty.size]); (try simp only [castL_self, Int.toNat_natCast, Int.toNat_zero, Int.toNat_one, true_and, List.length_append, List.length_set, List.length_drop, List.length_take, List.length_replicate, List.length_cons, List.length_nil, Nat.zero_add, Nat.mul_one]); omega) | decide | (intros; simp_all; done) | (intros; simp_all; omega)) ?_
          refine hK17 _ _ ?_
          clear hK17
          refine AWPD.ret (And.intro (.inl rfl) ?_)
          -- result 2
          refine RetD.one ?_
          refine fitB rfl ?_
          rw [ht3, ha1]
          simp
          omega
end Go.Proofs.YtmeacgkhabnjlaaDoor
