/-
  WALKS of the laws AuditRank and AuditSame. Laid by a program of mine out of the operations, with the loops and results told by hand.
-/
import Derived.Test.YtmeacgkhabnjlaaQwAv
namespace Go.Proofs.Ytmeacgkhabnjlaa
open Go Go.Qw
set_option maxRecDepth 10000
set_option linter.unusedSimpArgs false
set_option linter.unusedVariables false


theorem afact1 : tellV 3 [3, 6] 5 = true := by decide +kernel
theorem afact2 : tellE 3 [3, 6] 5 = 0 := by decide +kernel
theorem afact3 : tellV 3 [3, 6] 1 = false := by decide +kernel
theorem afact4 : tellE 3 [3, 6] 1 = 0 := by decide +kernel
theorem rankV_ok {z : Int} {asks : List Int} (h : askE z asks = 0) : rankV z asks = ((ofV asks).2 : Int) := by unfold rankV; rw [if_pos h]
theorem rankV_in {z : Int} {asks : List Int} (h : askE z asks = 0) : 0 ≤ rankV z asks ∧ rankV z asks ≤ z ∧ rankV z asks ≤ asks.length := by
  have g := ask_ok h
  have gz := g.n0
  have h1 := (g.a.bas asks.length (Nat.le_refl _)).le g.a.1
  have h2 := ofS_le asks asks.length
  rw [rankV_ok h]
  unfold ofV
  omega
/-- With one ask more. -/
theorem rank_more {z : Int} {asks : List Int} {s : Int} (h : askE z asks = 0) (ht : tellE z asks s = 0) (h2 : askE z (asks ++ [s]) = 0) : rankV z (asks ++ [s]) = if tellV z asks s = true then rankV z asks else rankV z asks + 1 := by
  rw [rankV_ok h2, rankV_ok h, ofV_rank]
  unfold tellV
  rw [decide_eq_true ht, Bool.true_and]
  by_cases hc : cutV (ofV asks).1 s.toNat = 0
  · rw [if_pos hc, if_pos (decide_eq_true hc)]
  · rw [if_neg hc, if_neg (by simpa using hc)]; simp
theorem ask_more {z : Int} {asks : List Int} {s : Int} (h : askE z asks = 0) (hm : maskB s z = true) (h2 : askE z (asks ++ [s]) ≠ 0) : 20 ≤ asks.length := by
  have g := ask_ok h
  refine Nat.le_of_not_lt fun hlt => h2 ?_
  have hall : ∀ j, j < asks.length → maskB (asks.getD j 0) z = true := fun j hj => by
    have := g.all j hj
    exact decide_eq_true (by omega)
  unfold askE
  rw [if_neg (fun hh => hh g.n0), if_neg (by simp; omega), if_pos]
  intro j hj
  rw [List.length_append, List.length_singleton] at hj
  by_cases he : j < asks.length
  · rw [List.getD, List.getElem?_append_left he]; exact hall j he
  · rw [show j = asks.length by omega]
    simpa [List.getD] using hm

theorem auditFact_fn  : LiftsD Try.prog 8 [] (.b true) := by
  refine LiftsD.of_body 28 [.tmp 0] Try.func8 rfl Try.ntmps8 (by kernel_rfl) rfl rfl fun w0 X0 => ?_
  refine AWPD.seq fun K1 hK1 => ?_
  -- region 0
  refine AWPD.keep [] rfl ?_
  refine AWPD.region tabOK rfl ?_
  refine hK1 _ _ ?_
  clear hK1
  refine AWPD.seq fun K2 hK2 => ?_
  -- region 1
  refine AWPD.keep [] rfl ?_
  refine AWPD.region tabOK rfl ?_
  refine Exists.intro _ (Exists.intro _ (And.intro (StepD.call (tells_fn _ _ _) rfl rfl rfl) (And.intro rfl (And.intro trivial ?_))))
  refine hK2 _ _ ?_
  clear hK2
  refine AWPD.seq fun K3 hK3 => ?_
  -- region 2
  refine AWPD.keep [1, 2] rfl ?_
  refine AWPD.region tabOK rfl ?_
  refine Exists.intro _ (Exists.intro _ (And.intro (StepD.call (tells_fn _ _ _) rfl rfl rfl) (And.intro rfl (And.intro trivial ?_))))
  refine hK3 _ _ ?_
  clear hK3
  refine AWPD.seq fun K4 hK4 => ?_
  -- region 3
  refine AWPD.keep [1, 2, 3, 4] rfl ?_
  refine AWPD.region tabOK rfl ?_
  repeat refine And.intro (by first | exact fun h => h | exact fun _ => rfl | (intro h; rw [h]; rfl) | omega | (intros; (try dsimp only [Ty.T, Ty.size]); (try simp only [castL_self, Int.toNat_natCast, Int.toNat_zero, Int.toNat_one, true_and, List.length_append, List.length_set, List.length_drop, List.length_take, List.length_replicate, List.length_cons, List.length_nil, Nat.zero_add, Nat.mul_one]); omega) | decide | (intros; simp_all; done) | (intros; simp_all; omega)) ?_
  refine hK4 _ _ ?_
  clear hK4
  refine AWPD.ret (And.intro (.inl rfl) ?_)
  -- result 0
  refine RetD.one ?_
  refine fitB rfl ?_
  rw [afact1, afact2, afact3, afact4]
  rfl
theorem auditRank_fn (z : Int) (asks : List Int) (s : Int) : LiftsD Try.prog 3 [.i z, .sl .int asks, .i s] (.b true) := by
  refine LiftsD.of_body 78 [.tmp 6] Try.func3 rfl Try.ntmps3 (by kernel_rfl) rfl rfl fun w0 X0 => ?_
  refine AWPD.seq fun K1 hK1 => ?_
  -- region 0
  refine AWPD.keep [0, 1, 2] rfl ?_
  refine AWPD.region tabOK rfl ?_
  refine hK1 _ _ ?_
  clear hK1
  refine AWPD.seq fun K2 hK2 => ?_
  -- region 1
  refine AWPD.keep [0, 1, 2] rfl ?_
  refine AWPD.region tabOK rfl ?_
  refine Exists.intro _ (Exists.intro _ (And.intro (StepD.call (auditFact_fn) rfl rfl rfl) (And.intro rfl (And.intro trivial ?_))))
  refine hK2 _ _ ?_
  clear hK2
  refine AWPD.seq fun K3 hK3 => ?_
  refine AWPD.seq fun K4 hK4 => ?_
  -- region 2
  refine AWPD.keep [0, 1, 2, 7] rfl ?_
  refine AWPD.region tabOK rfl ?_
  refine hK4 _ _ ?_
  clear hK4
  first | refine AWPD.condP rfl (fun h0 => ?_) (fun h0 => ?_) | refine AWPD.condN rfl (fun h0 => ?_) (fun h0 => ?_) | refine AWPD.condAP rfl (fun h0 => ?_) (fun h0 => ?_) | refine AWPD.condOP rfl (fun h0 => ?_) (fun h0 => ?_) | refine AWPD.condONN rfl (fun h0 => ?_) (fun h0 => ?_) | refine AWPD.condOPN rfl (fun h0 => ?_) (fun h0 => ?_) | refine AWPD.condA rfl (fun h0 => ?_) (fun h0 => ?_) | refine AWPD.condO rfl (fun h0 => ?_) (fun h0 => ?_) | refine AWPD.cond rfl (fun h0 => ?_) (fun h0 => ?_)
  · try dsimp only [Ty.T] at h0
    try simp only [castL_self] at h0
    try simp only [Int.toNat_natCast] at h0
    try simp only [Int.toNat_zero] at h0
    exact absurd h0 (by decide)
  · try dsimp only [Ty.T] at h0
    try simp only [castL_self] at h0
    try simp only [Int.toNat_natCast] at h0
    try simp only [Int.toNat_zero] at h0
    refine AWPD.skip ?_
    refine hK3 _ _ ?_
    clear hK3
    refine AWPD.seq fun K5 hK5 => ?_
    -- region 4
    refine AWPD.keep [0, 1, 2] rfl ?_
    refine AWPD.region tabOK rfl ?_
    refine Exists.intro _ (Exists.intro _ (And.intro (StepD.call (rank_fn _ _) rfl rfl rfl) (And.intro rfl (And.intro trivial ?_))))
    refine hK5 _ _ ?_
    clear hK5
    refine AWPD.seq fun K6 hK6 => ?_
    -- region 5
    refine AWPD.keep [0, 1, 2, 8, 9] rfl ?_
    refine AWPD.region tabOK rfl ?_
    refine Exists.intro _ (Exists.intro _ (And.intro (StepD.call (tells_fn _ _ _) rfl rfl rfl) (And.intro rfl (And.intro trivial ?_))))
    refine hK6 _ _ ?_
    clear hK6
    refine AWPD.seq fun K7 hK7 => ?_
    refine AWPD.seq fun K8 hK8 => ?_
    -- region 6
    refine AWPD.keep [0, 1, 2, 8, 9, 10, 11] rfl ?_
    refine AWPD.region tabOK rfl ?_
    repeat refine And.intro (by first | exact fun h => h | exact fun _ => rfl | (intro h; rw [h]; rfl) | omega | (intros; (try dsimp only [Ty.T, Ty.size]); (try simp only [castL_self, Int.toNat_natCast, Int.toNat_zero, Int.toNat_one, true_and, List.length_append, List.length_set, List.length_drop, List.length_take, List.length_replicate, List.length_cons, List.length_nil, Nat.zero_add, Nat.mul_one]); omega) | decide | (intros; simp_all; done) | (intros; simp_all; omega)) ?_
    refine hK8 _ _ ?_
    clear hK8
    first | refine AWPD.condP rfl (fun h1 => ?_) (fun h1 => ?_) | refine AWPD.condN rfl (fun h1 => ?_) (fun h1 => ?_) | refine AWPD.condAP rfl (fun h1 => ?_) (fun h1 => ?_) | refine AWPD.condOP rfl (fun h1 => ?_) (fun h1 => ?_) | refine AWPD.condONN rfl (fun h1 => ?_) (fun h1 => ?_) | refine AWPD.condOPN rfl (fun h1 => ?_) (fun h1 => ?_) | refine AWPD.condA rfl (fun h1 => ?_) (fun h1 => ?_) | refine AWPD.condO rfl (fun h1 => ?_) (fun h1 => ?_) | refine AWPD.cond rfl (fun h1 => ?_) (fun h1 => ?_)
    · try dsimp only [Ty.T] at h1
      try simp only [castL_self] at h1
      try simp only [Int.toNat_natCast] at h1
      try simp only [Int.toNat_zero] at h1
      have h1 : tellE z asks s ≠ 0 := by
        rcases h1 with h | h
        · intro ht
          exact h (tell_ok ht).1
        · exact h
      refine AWPD.seq fun K9 hK9 => ?_
      -- region 7
      refine AWPD.keep [11] rfl ?_
      refine AWPD.region tabOK rfl ?_
      refine hK9 _ _ ?_
      clear hK9
      refine AWPD.ret (And.intro (.inl rfl) ?_)
      -- result 0
      refine RetD.one ?_
      exact fitB rfl (decide_eq_true h1)
    · try dsimp only [Ty.T] at h1
      try simp only [castL_self] at h1
      try simp only [Int.toNat_natCast] at h1
      try simp only [Int.toNat_zero] at h1
      have ht : tellE z asks s = 0 := by omega
      obtain ⟨he, hm⟩ := tell_ok ht
      have g := ask_ok he
      have gl := g.len
      have hin := rankV_in he
      refine AWPD.skip ?_
      refine hK7 _ _ ?_
      clear hK7
      refine AWPD.seq fun K10 hK10 => ?_
      refine AWPD.seq fun K11 hK11 => ?_
      -- region 8
      refine AWPD.keep [0, 1, 2, 8, 10] rfl ?_
      refine AWPD.region tabOK rfl ?_
      repeat refine And.intro (by first | exact fun h => h | exact fun _ => rfl | (intro h; rw [h]; rfl) | omega | (intros; (try dsimp only [Ty.T, Ty.size]); (try simp only [castL_self, Int.toNat_natCast, Int.toNat_zero, Int.toNat_one, true_and, List.length_append, List.length_set, List.length_drop, List.length_take, List.length_replicate, List.length_cons, List.length_nil, Nat.zero_add, Nat.mul_one]); omega) | decide | (intros; simp_all; done) | (intros; simp_all; omega)) ?_
      refine hK11 _ _ ?_
      clear hK11
      first | refine AWPD.cond rfl (fun h2 => ?_) (fun h2 => ?_)
      · try dsimp only [Ty.T] at h2
        try simp only [castL_self] at h2
        try simp only [Int.toNat_natCast] at h2
        try simp only [Int.toNat_zero] at h2
        exfalso; simp at h2; omega
      · try dsimp only [Ty.T] at h2
        try simp only [castL_self] at h2
        try simp only [Int.toNat_natCast] at h2
        try simp only [Int.toNat_zero] at h2
        refine AWPD.skip ?_
        refine hK10 _ _ ?_
        clear hK10
        refine AWPD.seq fun K12 hK12 => ?_
        -- region 10
        refine AWPD.keep [0, 1, 2, 8, 10] rfl ?_
        refine AWPD.region tabOK rfl ?_
        refine hK12 _ _ ?_
        clear hK12
        refine AWPD.seq fun K13 hK13 => ?_
        -- region 11
        refine AWPD.keep [0, 1, 2, 8, 10, 12] rfl ?_
        refine AWPD.region tabOK rfl ?_
        repeat refine And.intro (by first | exact fun h => h | exact fun _ => rfl | (intro h; rw [h]; rfl) | omega | (intros; (try dsimp only [Ty.T, Ty.size]); (try simp only [castL_self, Int.toNat_natCast, Int.toNat_zero, Int.toNat_one, true_and, List.length_append, List.length_set, List.length_drop, List.length_take, List.length_replicate, List.length_cons, List.length_nil, Nat.zero_add, Nat.mul_one]); omega) | decide | (intros; simp_all; done) | (intros; simp_all; omega)) ?_
        refine hK13 _ _ ?_
        clear hK13
        refine AWPD.seq fun K14 hK14 => ?_
        -- region 12
        refine AWPD.keep [0, 1, 2, 8, 10, 12] rfl ?_
        refine AWPD.region tabOK rfl ?_
        repeat refine And.intro (by first | exact fun h => h | exact fun _ => rfl | (intro h; rw [h]; rfl) | omega | (intros; (try dsimp only [Ty.T, Ty.size]); (try simp only [castL_self, Int.toNat_natCast, Int.toNat_zero, Int.toNat_one, true_and, List.length_append, List.length_set, List.length_drop, List.length_take, List.length_replicate, List.length_cons, List.length_nil, Nat.zero_add, Nat.mul_one]); omega) | decide | (intros; simp_all; done) | (intros; simp_all; omega)) ?_
        refine hK14 _ _ ?_
        clear hK14
        refine AWPD.seq fun K15 hK15 => ?_
        -- region 13
        refine AWPD.freeze 12 rfl rfl rfl ?_
        refine AWPD.keep [0, 1, 8, 10, 12] rfl ?_
        refine AWPD.region tabOK rfl ?_
        refine Exists.intro _ (Exists.intro _ (And.intro (StepD.call (rank_fn z (asks ++ [s])) rfl rfl rfl) (And.intro rfl (And.intro trivial ?_))))
        refine hK15 _ _ ?_
        clear hK15
        refine AWPD.seq fun K16 hK16 => ?_
        refine AWPD.seq fun K17 hK17 => ?_
        -- region 14
        refine AWPD.keep [1, 8, 10, 13, 14] rfl ?_
        refine AWPD.region tabOK rfl ?_
        refine hK17 _ _ ?_
        clear hK17
        first | refine AWPD.condP rfl (fun h3 => ?_) (fun h3 => ?_) | refine AWPD.condN rfl (fun h3 => ?_) (fun h3 => ?_) | refine AWPD.condAP rfl (fun h3 => ?_) (fun h3 => ?_) | refine AWPD.condOP rfl (fun h3 => ?_) (fun h3 => ?_) | refine AWPD.condONN rfl (fun h3 => ?_) (fun h3 => ?_) | refine AWPD.condOPN rfl (fun h3 => ?_) (fun h3 => ?_) | refine AWPD.condA rfl (fun h3 => ?_) (fun h3 => ?_) | refine AWPD.condO rfl (fun h3 => ?_) (fun h3 => ?_) | refine AWPD.cond rfl (fun h3 => ?_) (fun h3 => ?_)
        · try dsimp only [Ty.T] at h3
          try simp only [castL_self] at h3
          try simp only [Int.toNat_natCast] at h3
          try simp only [Int.toNat_zero] at h3
          have hmo := ask_more he hm h3
          refine AWPD.seq fun K18 hK18 => ?_
          -- region 15
          refine AWPD.keep [1] rfl ?_
          refine AWPD.region tabOK rfl ?_
          refine hK18 _ _ ?_
          clear hK18
          refine AWPD.ret (And.intro (.inl rfl) ?_)
          -- result 1
          refine RetD.one ?_
          exact fitB rfl (decide_eq_true (by omega))
        · try dsimp only [Ty.T] at h3
          try simp only [castL_self] at h3
          try simp only [Int.toNat_natCast] at h3
          try simp only [Int.toNat_zero] at h3
          have hrm := rank_more he ht (by omega)
          refine AWPD.skip ?_
          refine hK16 _ _ ?_
          clear hK16
          refine AWPD.seq fun K19 hK19 => ?_
          -- region 16
          refine AWPD.keep [8, 10, 13] rfl ?_
          refine AWPD.region tabOK rfl ?_
          repeat refine And.intro (by first | exact fun h => h | exact fun _ => rfl | (intro h; rw [h]; rfl) | omega | (intros; (try dsimp only [Ty.T, Ty.size]); (try simp only [castL_self, Int.toNat_natCast, Int.toNat_zero, Int.toNat_one, true_and, List.length_append, List.length_set, List.length_drop, List.length_take, List.length_replicate, List.length_cons, List.length_nil, Nat.zero_add, Nat.mul_one]); omega) | decide | (intros; simp_all; done) | (intros; simp_all; omega)) ?_
          refine hK19 _ _ ?_
          clear hK19
          refine AWPD.seq fun K20 hK20 => ?_
          refine AWPD.seq fun K21 hK21 => ?_
          -- region 17
          refine AWPD.keep [8, 10, 13, 15] rfl ?_
          refine AWPD.region tabOK rfl ?_
          refine hK21 _ _ ?_
          clear hK21
          first | refine AWPD.condP rfl (fun h4 => ?_) (fun h4 => ?_) | refine AWPD.condN rfl (fun h4 => ?_) (fun h4 => ?_) | refine AWPD.condAP rfl (fun h4 => ?_) (fun h4 => ?_) | refine AWPD.condOP rfl (fun h4 => ?_) (fun h4 => ?_) | refine AWPD.condONN rfl (fun h4 => ?_) (fun h4 => ?_) | refine AWPD.condOPN rfl (fun h4 => ?_) (fun h4 => ?_) | refine AWPD.condA rfl (fun h4 => ?_) (fun h4 => ?_) | refine AWPD.condO rfl (fun h4 => ?_) (fun h4 => ?_) | refine AWPD.cond rfl (fun h4 => ?_) (fun h4 => ?_)
          · try dsimp only [Ty.T] at h4
            try simp only [castL_self] at h4
            try simp only [Int.toNat_natCast] at h4
            try simp only [Int.toNat_zero] at h4
            -- region 18
            refine AWPD.keep [8, 13] rfl ?_
            refine AWPD.region tabOK rfl ?_
            refine hK20 _ _ ?_
            clear hK20
            refine AWPD.seq fun K22 hK22 => ?_
            -- region 19
            refine AWPD.keep [13, 15] rfl ?_
            refine AWPD.region tabOK rfl ?_
            refine hK22 _ _ ?_
            clear hK22
            refine AWPD.ret (And.intro (.inl rfl) ?_)
            -- result 2
            refine RetD.one ?_
            refine fitB rfl (decide_eq_true ?_)
            rw [hrm, if_pos h4]
          · try dsimp only [Ty.T] at h4
            try simp only [castL_self] at h4
            try simp only [Int.toNat_natCast] at h4
            try simp only [Int.toNat_zero] at h4
            refine AWPD.skip ?_
            refine hK20 _ _ ?_
            clear hK20
            refine AWPD.seq fun K23 hK23 => ?_
            -- region 19
            refine AWPD.keep [13, 15] rfl ?_
            refine AWPD.region tabOK rfl ?_
            refine hK23 _ _ ?_
            clear hK23
            refine AWPD.ret (And.intro (.inl rfl) ?_)
            -- result 3
            refine RetD.one ?_
            refine fitB rfl (decide_eq_true ?_)
            rw [hrm, if_neg (by rw [h4]; decide)]

theorem par_eq {x y : Nat} : parB x = parB y ↔ popN x % 2 = popN y % 2 := by
  unfold parB
  rw [decide_eq_decide]
  omega
theorem ansL_get {asks : List Int} {b : Int} {j n : Nat} (h : j < n) : (ansL asks b n).getD j 0 = odV (asks.getD j 0) b := by simp [ansL, List.getD, h]
theorem ans_par {asks : List Int} {a b : Int} (h : ansL asks a asks.length = ansL asks b asks.length) {j : Nat} (hj : j < asks.length) : parB ((asks.getD j 0).toNat &&& a.toNat) = parB ((asks.getD j 0).toNat &&& b.toNat) := by
  have h1 := ansL_get (asks := asks) (b := a) hj
  have h2 := ansL_get (asks := asks) (b := b) hj
  rw [h, h2] at h1
  unfold odV at h1
  exact par_eq.2 (by omega)
theorem tells_odd {z : Int} {asks : List Int} {a b s : Int} (hs : tellV z asks s = true) (ha : tellE z asks a = 0) (hb : tellE z asks b = 0) (h : ansV z asks a = ansV z asks b) : popN (s.toNat &&& a.toNat) % 2 = popN (s.toNat &&& b.toNat) % 2 := by
  unfold ansV at h
  rw [if_pos ha, if_pos hb] at h
  unfold tellV at hs
  have hc : cutV (ofV asks).1 s.toNat = 0 := by
    simp only [Bool.and_eq_true, decide_eq_true_eq] at hs
    exact hs.2
  exact par_eq.1 (tells_same (fun j hj => ans_par h hj) hc)
theorem ansV_len (z : Int) {asks : List Int} (hl : asks.length ≤ 20) (b : Int) : (ansV z asks b).length ≤ 20 := by
  unfold ansV
  split
  · rw [ansL_len]; exact hl
  · simp
theorem tell_in {z : Int} {asks : List Int} {s : Int} (h : tellE z asks s = 0) : 0 ≤ s ∧ s ≤ 4095 := by
  obtain ⟨he, hm⟩ := tell_ok h
  have g := (ask_ok he).n0
  have := mask_in hm
  have := pow12 (n := z.toNat) (by omega)
  omega

theorem auditSame_fn (z : Int) (asks : List Int) (a b s : Int) : LiftsD Try.prog 4 [.i z, .sl .int asks, .i a, .i b, .i s] (.b true) := by
  refine LiftsD.of_body 69 [.tmp 10] Try.func4 rfl Try.ntmps4 (by kernel_rfl) rfl rfl fun w0 X0 => ?_
  refine AWPD.seq fun K1 hK1 => ?_
  -- region 0
  refine AWPD.keep [0, 1, 2, 3, 4] rfl ?_
  refine AWPD.region tabOK rfl ?_
  refine hK1 _ _ ?_
  clear hK1
  refine AWPD.seq fun K2 hK2 => ?_
  -- region 1
  refine AWPD.keep [0, 1, 2, 3, 4] rfl ?_
  refine AWPD.region tabOK rfl ?_
  refine Exists.intro _ (Exists.intro _ (And.intro (StepD.call (auditFact_fn) rfl rfl rfl) (And.intro rfl (And.intro trivial ?_))))
  refine hK2 _ _ ?_
  clear hK2
  refine AWPD.seq fun K3 hK3 => ?_
  refine AWPD.seq fun K4 hK4 => ?_
  -- region 2
  refine AWPD.keep [0, 1, 2, 3, 4, 11] rfl ?_
  refine AWPD.region tabOK rfl ?_
  refine hK4 _ _ ?_
  clear hK4
  first | refine AWPD.condP rfl (fun h0 => ?_) (fun h0 => ?_) | refine AWPD.condN rfl (fun h0 => ?_) (fun h0 => ?_) | refine AWPD.condAP rfl (fun h0 => ?_) (fun h0 => ?_) | refine AWPD.condOP rfl (fun h0 => ?_) (fun h0 => ?_) | refine AWPD.condONN rfl (fun h0 => ?_) (fun h0 => ?_) | refine AWPD.condOPN rfl (fun h0 => ?_) (fun h0 => ?_) | refine AWPD.condA rfl (fun h0 => ?_) (fun h0 => ?_) | refine AWPD.condO rfl (fun h0 => ?_) (fun h0 => ?_) | refine AWPD.cond rfl (fun h0 => ?_) (fun h0 => ?_)
  · try dsimp only [Ty.T] at h0
    try simp only [castL_self] at h0
    try simp only [Int.toNat_natCast] at h0
    try simp only [Int.toNat_zero] at h0
    exact absurd h0 (by decide)
  · try dsimp only [Ty.T] at h0
    try simp only [castL_self] at h0
    try simp only [Int.toNat_natCast] at h0
    try simp only [Int.toNat_zero] at h0
    refine AWPD.skip ?_
    refine hK3 _ _ ?_
    clear hK3
    refine AWPD.seq fun K5 hK5 => ?_
    -- region 4
    refine AWPD.keep [0, 1, 2, 3, 4] rfl ?_
    refine AWPD.region tabOK rfl ?_
    refine Exists.intro _ (Exists.intro _ (And.intro (StepD.call (tells_fn _ _ _) rfl rfl rfl) (And.intro rfl (And.intro trivial ?_))))
    refine hK5 _ _ ?_
    clear hK5
    refine AWPD.seq fun K6 hK6 => ?_
    -- region 5
    refine AWPD.keep [0, 1, 2, 3, 4, 12, 13] rfl ?_
    refine AWPD.region tabOK rfl ?_
    refine Exists.intro _ (Exists.intro _ (And.intro (StepD.call (answers_fn _ _ _) rfl rfl rfl) (And.intro rfl (And.intro trivial ?_))))
    refine hK6 _ _ ?_
    clear hK6
    refine AWPD.seq fun K7 hK7 => ?_
    -- region 6
    refine AWPD.keep [0, 1, 2, 3, 4, 12, 13, 14, 15] rfl ?_
    refine AWPD.region tabOK rfl ?_
    refine Exists.intro _ (Exists.intro _ (And.intro (StepD.call (answers_fn _ _ _) rfl rfl rfl) (And.intro rfl (And.intro trivial ?_))))
    refine hK7 _ _ ?_
    clear hK7
    refine AWPD.seq fun K8 hK8 => ?_
    refine AWPD.seq fun K9 hK9 => ?_
    -- region 7
    refine AWPD.keep [2, 3, 4, 12, 13, 14, 15, 16, 17] rfl ?_
    refine AWPD.region tabOK rfl ?_
    repeat refine And.intro (by first | exact fun h => h | exact fun _ => rfl | (intro h; rw [h]; rfl) | omega | (intros; (try dsimp only [Ty.T, Ty.size]); (try simp only [castL_self, Int.toNat_natCast, Int.toNat_zero, Int.toNat_one, true_and, List.length_append, List.length_set, List.length_drop, List.length_take, List.length_replicate, List.length_cons, List.length_nil, Nat.zero_add, Nat.mul_one]); omega) | decide | (intros; simp_all; done) | (intros; simp_all; omega)) ?_
    refine hK9 _ _ ?_
    clear hK9
    first | refine AWPD.cond rfl (fun h1 => ?_) (fun h1 => ?_)
    · try dsimp only [Ty.T] at h1
      try simp only [castL_self] at h1
      try simp only [Int.toNat_natCast] at h1
      try simp only [Int.toNat_zero] at h1
      refine AWPD.seq fun K10 hK10 => ?_
      -- region 8
      refine AWPD.keep [] rfl ?_
      refine AWPD.region tabOK rfl ?_
      refine hK10 _ _ ?_
      clear hK10
      refine AWPD.ret (And.intro (.inl rfl) ?_)
      -- result 0
      refine RetD.one ?_
      exact fitB rfl rfl
    · try dsimp only [Ty.T] at h1
      try simp only [castL_self] at h1
      try simp only [Int.toNat_natCast] at h1
      try simp only [Int.toNat_zero] at h1
      have ht : tellE z asks s = 0 ∧ tellE z asks a = 0 ∧ tellE z asks b = 0 := by simp at h1; omega
      obtain ⟨ht1, ht2, ht3⟩ := ht
      obtain ⟨he, hm⟩ := tell_ok ht1
      have gl := (ask_ok he).len
      have i1 := tell_in ht1
      have i2 := tell_in ht2
      have i3 := tell_in ht3
      have l1 := ansV_len z gl a
      have l2 := ansV_len z gl b
      refine AWPD.skip ?_
      refine hK8 _ _ ?_
      clear hK8
      refine AWPD.seq fun K11 hK11 => ?_
      -- region 9
      refine AWPD.keep [2, 3, 4, 12, 14, 16] rfl ?_
      refine AWPD.region tabOK rfl ?_
      repeat refine And.intro (by first | exact fun h => h | exact fun _ => rfl | (intro h; rw [h]; rfl) | omega | (intros; (try dsimp only [Ty.T, Ty.size]); (try simp only [castL_self, Int.toNat_natCast, Int.toNat_zero, Int.toNat_one, true_and, List.length_append, List.length_set, List.length_drop, List.length_take, List.length_replicate, List.length_cons, List.length_nil, Nat.zero_add, Nat.mul_one]); omega) | decide | (intros; simp_all; done) | (intros; simp_all; omega)) ?_
      refine Exists.intro _ (Exists.intro _ (And.intro (fun hg => StepD.call (ints_fn _ _ (by omega)) rfl rfl rfl) (And.intro (fun hf => rfl) (And.intro rfl (And.intro trivial ?_)))))
      repeat refine And.intro (by first | exact fun h => h | exact fun _ => rfl | (intro h; rw [h]; rfl) | omega | (intros; (try dsimp only [Ty.T, Ty.size]); (try simp only [castL_self, Int.toNat_natCast, Int.toNat_zero, Int.toNat_one, true_and, List.length_append, List.length_set, List.length_drop, List.length_take, List.length_replicate, List.length_cons, List.length_nil, Nat.zero_add, Nat.mul_one]); omega) | decide | (intros; simp_all; done) | (intros; simp_all; omega)) ?_
      refine Exists.intro _ (Exists.intro _ (And.intro (fun hg => StepD.call (odd_fn _ _ (by omega) (by omega)) rfl rfl rfl) (And.intro (fun hf => rfl) (And.intro rfl (And.intro trivial ?_)))))
      repeat refine And.intro (by first | exact fun h => h | exact fun _ => rfl | (intro h; rw [h]; rfl) | omega | (intros; (try dsimp only [Ty.T, Ty.size]); (try simp only [castL_self, Int.toNat_natCast, Int.toNat_zero, Int.toNat_one, true_and, List.length_append, List.length_set, List.length_drop, List.length_take, List.length_replicate, List.length_cons, List.length_nil, Nat.zero_add, Nat.mul_one]); omega) | decide | (intros; simp_all; done) | (intros; simp_all; omega)) ?_
      refine Exists.intro _ (Exists.intro _ (And.intro (fun hg => StepD.call (odd_fn _ _ (by omega) (by omega)) rfl rfl rfl) (And.intro (fun hf => rfl) (And.intro rfl (And.intro trivial ?_)))))
      repeat refine And.intro (by first | exact fun h => h | exact fun _ => rfl | (intro h; rw [h]; rfl) | omega | (intros; (try dsimp only [Ty.T, Ty.size]); (try simp only [castL_self, Int.toNat_natCast, Int.toNat_zero, Int.toNat_one, true_and, List.length_append, List.length_set, List.length_drop, List.length_take, List.length_replicate, List.length_cons, List.length_nil, Nat.zero_add, Nat.mul_one]); omega) | decide | (intros; simp_all; done) | (intros; simp_all; omega)) ?_
      refine hK11 _ _ ?_
      clear hK11
      refine AWPD.ret (And.intro (.inl rfl) ?_)
      -- result 1
      refine RetD.one ?_
      refine fitB rfl ?_
      cases hs : tellV z asks s with
      | false => simp
      | true =>
        by_cases hx : ansV z asks a = ansV z asks b
        · have := tells_odd hs ht2 ht3 hx
          simp [hx]; omega
        · simp [hx]
end Go.Proofs.Ytmeacgkhabnjlaa
