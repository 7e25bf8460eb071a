/-
  WALKS of the laws of how sure one is: AgreeNot, AgreeSum, TopSure; and the laws behind them.
-/
import Derived.Test.YtkdihpajgmiolaaDoorQwAp
namespace Go.Proofs.YtkdihpajgmiolaaDoor
open Go Go.Qw
set_option maxRecDepth 10000
set_option linter.unusedSimpArgs false
set_option linter.unusedVariables false


theorem fact_pair : pairE [0, 0, 0, 0] [0, 1, 2, 3] [1, 1, 1, 1] 3 0 = 0 := by decide +kernel
theorem fact_sure : sureR [0, 0, 0, 0] [0, 1, 2, 3] [1, 1, 1, 1] 3 0 = (1, 2) := by decide +kernel
theorem fact_pair2 : pairE [0, 0] [0, 1] [1, 1] 3 0 = 0 := by decide +kernel
theorem fact_sure2 : sureR [0, 0] [0, 1] [1, 1] 3 0 = (1, 1) := by decide +kernel
theorem Pair.swap {p q ws : List Int} {e w : Int} (h : Pair p q ws e w) : Pair q p ws e w := by
  have hl := h.ql
  have m := h.sev.mask
  refine ⟨⟨by simp, by simp, fun i hi => ?_, fun i hi => ?_, ?_⟩, h.hq, h.hp, hl.symm, by rw [hl]; exact h.wl, h.wt, by rw [hl]; exact h.em, by rw [hl]; exact h.wi⟩
  · match i, hi with
    | 0, _ => exact h.hq
    | 1, _ => exact h.hp
    | i + 2, hi => exact absurd hi (by simp)
  · match i, hi with
    | 0, _ => rfl
    | 1, _ => exact hl.symm
    | i + 2, hi => exact absurd hi (by simp)
  · show maskB e (q.length : Int) = true
    rw [hl]; exact m
theorem Pair.belP {p q ws : List Int} {e w : Int} (h : Pair p q ws e w) : Bel p ws := ⟨h.hp, h.wl, h.wt⟩
theorem Pair.belQ {p q ws : List Int} {e w : Int} (h : Pair p q ws e w) : Bel q ws := h.swap.belP
theorem Pair.sure {p q ws : List Int} {e w : Int} (h : Pair p q ws e w) : sureR p q ws e w = xAt p ws e.toNat w.toNat := by unfold sureR xAt; rw [if_pos (pair_zero h)]
theorem sure_at {p ws : List Int} {e i : Nat} (hi : i < p.length) : (sureP p ws e p.length).getD i (0, 0) = xAt p ws e i := sureP_get p ws e hi
theorem linked_step {p q : List Int} {i j w : Nat} (hi : i < p.length) (hj : j < p.length) (h : p.getD i 0 = p.getD j 0 ∨ q.getD i 0 = q.getD j 0) (hl : linked [p, q] i w) : linked [p, q] j w := fun c hc => by
  have e : c i = c j := by
    rcases h with h | h
    · exact hc 0 (by simp) i j hi hj h
    · exact hc 1 (by simp) i j hi hj h
  rw [← e]
  exact hl c hc
open Classical in
theorem known_agree {p q ws : List Int} {e w : Int} (h : Pair p q ws e w) (hk : knownR p q ws e w = true) : sureR p q ws e w = sureR q p ws e w := by
  have hl := h.ql
  have hw := h.wi
  have hwl : w.toNat < p.length := by omega
  unfold knownR at hk
  rw [if_pos (pair_zero h)] at hk
  have svs : Sev [p, q] ((sameM p q ws e.toNat w.toNat p.length : Nat) : Int) := h.sev.other (mask_of (p := p) (sameM_lt _ _ _ _ _ _))
  obtain ⟨_, hb⟩ := (com_bit svs (sameM p q ws e.toNat w.toNat p.length) w.toNat).1 hk
  have hs : ∀ i, i < p.length → linked [p, q] i w.toNat → xAt p ws e.toNat i = xAt p ws e.toNat w.toNat ∧ xAt q ws e.toNat i = xAt q ws e.toNat w.toNat := fun i hi hli => by
    have := hb i hi hli
    rw [sameM_bit, decide_eq_true hi, Bool.true_and, decide_eq_true_eq, sure_at hi, sure_at hwl, sure_at (p := q) (by omega), sure_at (p := q) (by omega)] at this
    exact this
  rw [h.sure, h.swap.sure]
  exact aumann h.belP h.belQ e.toNat (fun i => linked [p, q] i w.toNat) hwl (fun c _ => rfl) (fun i j hi hj he hm => linked_step hi hj (.inl he) hm) (fun i j hi hj he hm => linked_step hi hj (.inr he) hm) (fun i hi hm => (hs i hi hm).1) (fun i hi hm => (hs i hi hm).2)
theorem Pair.xin {p q ws : List Int} {e w : Int} (h : Pair p q ws e w) : 0 ≤ (sureR p q ws e w).1 ∧ (sureR p q ws e w).1 ≤ (sureR p q ws e w).2 ∧ 1 ≤ (sureR p q ws e w).2 ∧ (sureR p q ws e w).2 ≤ 600 := by
  have hw := h.wi
  rw [h.sure]
  exact h.belP.xin e.toNat (by omega)

theorem agreeFact_fn  : LiftsG Tryd.prog tabG 10 [] (.b true) := by
  refine LiftsG.of_body 22 [.tmp 0] Tryd.func10 rfl Tryd.ntmps10 (by kernel_rfl) rfl rfl fun w0 X0 hG0 => ?_
  refine AWPD.seq fun K1 hK1 => ?_
  -- region 0
  refine AWPD.keep [] rfl ?_
  refine AWPD.region tabOK rfl ?_
  refine hK1 _ _ ?_
  clear hK1
  refine AWPD.seq fun K2 hK2 => ?_
  -- region 1
  refine AWPD.keep [] rfl ?_
  refine AWPD.region tabOK rfl ?_
  refine Exists.intro _ (Exists.intro _ (And.intro (StepD.callG tabG_stays rfl hG0 (sureR_fn _ _ _ _ _) rfl rfl rfl) (And.intro rfl (And.intro trivial ?_))))
  repeat refine And.intro (by first | exact fun h => h | exact fun _ => rfl | (intro h; rw [h]; rfl) | omega | ((try dsimp only [Ty.T]); (try simp only [castL_self]); (try simp only [Int.toNat_natCast]); (try simp only [Int.toNat_zero]); (try simp only [true_and]); omega) | (intros; (try dsimp only [Ty.T]); (try simp only [castL_self]); (try simp only [Int.toNat_natCast]); (try simp only [Int.toNat_zero]); (try simp only [true_and]); omega) | ((try dsimp only [Ty.T, Ty.size]); (try simp only [castL_self, Int.toNat_natCast, Int.toNat_zero, true_and, List.length_append, List.length_set, List.length_cons, List.length_nil, Nat.zero_add, Nat.mul_one]); omega) | ((try dsimp only [Ty.T, Ty.size]); (try simp only [castL_self, Int.toNat_natCast, Int.toNat_zero, Int.toNat_one, true_and, List.length_append, List.length_set, List.length_drop, List.length_take, List.length_replicate, List.length_cons, List.length_nil, Nat.zero_add, Nat.mul_one]); omega) | decide | (intros; simp_all; done) | (intros; simp_all; omega)) ?_
  refine hK2 _ _ ?_
  clear hK2
  refine AWPD.seq fun K3 hK3 => ?_
  -- region 2
  refine AWPD.keep [1, 2] rfl ?_
  refine AWPD.region tabOK rfl ?_
  repeat refine And.intro (by first | exact fun h => h | exact fun _ => rfl | (intro h; rw [h]; rfl) | omega | ((try dsimp only [Ty.T]); (try simp only [castL_self]); (try simp only [Int.toNat_natCast]); (try simp only [Int.toNat_zero]); (try simp only [true_and]); omega) | (intros; (try dsimp only [Ty.T]); (try simp only [castL_self]); (try simp only [Int.toNat_natCast]); (try simp only [Int.toNat_zero]); (try simp only [true_and]); omega) | ((try dsimp only [Ty.T, Ty.size]); (try simp only [castL_self, Int.toNat_natCast, Int.toNat_zero, true_and, List.length_append, List.length_set, List.length_cons, List.length_nil, Nat.zero_add, Nat.mul_one]); omega) | ((try dsimp only [Ty.T, Ty.size]); (try simp only [castL_self, Int.toNat_natCast, Int.toNat_zero, Int.toNat_one, true_and, List.length_append, List.length_set, List.length_drop, List.length_take, List.length_replicate, List.length_cons, List.length_nil, Nat.zero_add, Nat.mul_one]); omega) | decide | (intros; simp_all; done) | (intros; simp_all; omega)) ?_
  refine hK3 _ _ ?_
  clear hK3
  refine AWPD.ret (And.intro (.inl rfl) ?_)
  -- result 0
  refine RetD.one ?_
  refine fitB rfl ?_
  rw [fact_pair, fact_sure]
  rfl
theorem agreeNot_fn (p q ws : List Int) (e w : Int) : LiftsG Tryd.prog tabG 6 [.sl .int p, .sl .int q, .sl .int ws, .i e, .i w] (.b true) := by
  refine LiftsG.of_body 88 [.tmp 10] Tryd.func6 rfl Tryd.ntmps6 (by kernel_rfl) rfl rfl fun w0 X0 hG0 => ?_
  refine AWPD.seq fun K1 hK1 => ?_
  -- region 0
  refine AWPD.keep [0, 1, 2, 3, 4] rfl ?_
  refine AWPD.region tabOK rfl ?_
  refine hK1 _ _ ?_
  clear hK1
  refine AWPD.seq fun K2 hK2 => ?_
  -- region 1
  refine AWPD.keep [0, 1, 2, 3, 4] rfl ?_
  refine AWPD.region tabOK rfl ?_
  refine Exists.intro _ (Exists.intro _ (And.intro (StepD.callG tabG_stays rfl hG0 (agreeFact_fn) rfl rfl rfl) (And.intro rfl (And.intro trivial ?_))))
  refine hK2 _ _ ?_
  clear hK2
  refine AWPD.seq fun K3 hK3 => ?_
  refine AWPD.seq fun K4 hK4 => ?_
  -- region 2
  refine AWPD.keep [0, 1, 2, 3, 4, 11] rfl ?_
  refine AWPD.region tabOK rfl ?_
  refine hK4 _ _ ?_
  clear hK4
  first | refine AWPD.condP rfl (fun h0 => ?_) (fun h0 => ?_) | refine AWPD.condN rfl (fun h0 => ?_) (fun h0 => ?_) | refine AWPD.condAP rfl (fun h0 => ?_) (fun h0 => ?_) | refine AWPD.condOP rfl (fun h0 => ?_) (fun h0 => ?_) | refine AWPD.condONN rfl (fun h0 => ?_) (fun h0 => ?_) | refine AWPD.condOPN rfl (fun h0 => ?_) (fun h0 => ?_) | refine AWPD.condA rfl (fun h0 => ?_) (fun h0 => ?_) | refine AWPD.condO rfl (fun h0 => ?_) (fun h0 => ?_) | refine AWPD.cond rfl (fun h0 => ?_) (fun h0 => ?_)
  · try dsimp only [Ty.T] at h0
    try simp only [castL_self] at h0
    try simp only [Int.toNat_natCast] at h0
    try simp only [Int.toNat_zero] at h0
    exact absurd h0 (by decide)
  · try dsimp only [Ty.T] at h0
    try simp only [castL_self] at h0
    try simp only [Int.toNat_natCast] at h0
    try simp only [Int.toNat_zero] at h0
    refine AWPD.skip ?_
    refine hK3 _ _ ?_
    clear hK3
    refine AWPD.seq fun K5 hK5 => ?_
    -- region 4
    refine AWPD.keep [0, 1, 2, 3, 4] rfl ?_
    refine AWPD.region tabOK rfl ?_
    refine Exists.intro _ (Exists.intro _ (And.intro (StepD.callG tabG_stays rfl hG0 (knownR_fn _ _ _ _ _) rfl rfl rfl) (And.intro rfl (And.intro trivial ?_))))
    refine hK5 _ _ ?_
    clear hK5
    refine AWPD.seq fun K6 hK6 => ?_
    -- region 5
    refine AWPD.keep [0, 1, 2, 3, 4, 12, 13] rfl ?_
    refine AWPD.region tabOK rfl ?_
    refine Exists.intro _ (Exists.intro _ (And.intro (StepD.callG tabG_stays rfl hG0 (sureR_fn _ _ _ _ _) rfl rfl rfl) (And.intro rfl (And.intro trivial ?_))))
    repeat refine And.intro (by first | exact fun h => h | exact fun _ => rfl | (intro h; rw [h]; rfl) | omega | ((try dsimp only [Ty.T]); (try simp only [castL_self]); (try simp only [Int.toNat_natCast]); (try simp only [Int.toNat_zero]); (try simp only [true_and]); omega) | (intros; (try dsimp only [Ty.T]); (try simp only [castL_self]); (try simp only [Int.toNat_natCast]); (try simp only [Int.toNat_zero]); (try simp only [true_and]); omega) | ((try dsimp only [Ty.T, Ty.size]); (try simp only [castL_self, Int.toNat_natCast, Int.toNat_zero, true_and, List.length_append, List.length_set, List.length_cons, List.length_nil, Nat.zero_add, Nat.mul_one]); omega) | ((try dsimp only [Ty.T, Ty.size]); (try simp only [castL_self, Int.toNat_natCast, Int.toNat_zero, Int.toNat_one, true_and, List.length_append, List.length_set, List.length_drop, List.length_take, List.length_replicate, List.length_cons, List.length_nil, Nat.zero_add, Nat.mul_one]); omega) | decide | (intros; simp_all; done) | (intros; simp_all; omega)) ?_
    refine hK6 _ _ ?_
    clear hK6
    refine AWPD.seq fun K7 hK7 => ?_
    -- region 6
    refine AWPD.keep [0, 1, 2, 3, 4, 12, 13, 14, 15] rfl ?_
    refine AWPD.region tabOK rfl ?_
    refine Exists.intro _ (Exists.intro _ (And.intro (StepD.callG tabG_stays rfl hG0 (sureR_fn _ _ _ _ _) rfl rfl rfl) (And.intro rfl (And.intro trivial ?_))))
    repeat refine And.intro (by first | exact fun h => h | exact fun _ => rfl | (intro h; rw [h]; rfl) | omega | ((try dsimp only [Ty.T]); (try simp only [castL_self]); (try simp only [Int.toNat_natCast]); (try simp only [Int.toNat_zero]); (try simp only [true_and]); omega) | (intros; (try dsimp only [Ty.T]); (try simp only [castL_self]); (try simp only [Int.toNat_natCast]); (try simp only [Int.toNat_zero]); (try simp only [true_and]); omega) | ((try dsimp only [Ty.T, Ty.size]); (try simp only [castL_self, Int.toNat_natCast, Int.toNat_zero, true_and, List.length_append, List.length_set, List.length_cons, List.length_nil, Nat.zero_add, Nat.mul_one]); omega) | ((try dsimp only [Ty.T, Ty.size]); (try simp only [castL_self, Int.toNat_natCast, Int.toNat_zero, Int.toNat_one, true_and, List.length_append, List.length_set, List.length_drop, List.length_take, List.length_replicate, List.length_cons, List.length_nil, Nat.zero_add, Nat.mul_one]); omega) | decide | (intros; simp_all; done) | (intros; simp_all; omega)) ?_
    refine hK7 _ _ ?_
    clear hK7
    refine AWPD.seq fun K8 hK8 => ?_
    refine AWPD.seq fun K9 hK9 => ?_
    -- region 7
    refine AWPD.keep [12, 13, 14, 15, 16, 17] rfl ?_
    refine AWPD.region tabOK rfl ?_
    repeat refine And.intro (by first | exact fun h => h | exact fun _ => rfl | (intro h; rw [h]; rfl) | omega | ((try dsimp only [Ty.T]); (try simp only [castL_self]); (try simp only [Int.toNat_natCast]); (try simp only [Int.toNat_zero]); (try simp only [true_and]); omega) | (intros; (try dsimp only [Ty.T]); (try simp only [castL_self]); (try simp only [Int.toNat_natCast]); (try simp only [Int.toNat_zero]); (try simp only [true_and]); omega) | ((try dsimp only [Ty.T, Ty.size]); (try simp only [castL_self, Int.toNat_natCast, Int.toNat_zero, true_and, List.length_append, List.length_set, List.length_cons, List.length_nil, Nat.zero_add, Nat.mul_one]); omega) | ((try dsimp only [Ty.T, Ty.size]); (try simp only [castL_self, Int.toNat_natCast, Int.toNat_zero, Int.toNat_one, true_and, List.length_append, List.length_set, List.length_drop, List.length_take, List.length_replicate, List.length_cons, List.length_nil, Nat.zero_add, Nat.mul_one]); omega) | decide | (intros; simp_all; done) | (intros; simp_all; omega)) ?_
    refine hK9 _ _ ?_
    clear hK9
    first | refine AWPD.cond rfl (fun h1 => ?_) (fun h1 => ?_)
    · try dsimp only [Ty.T] at h1
      try simp only [castL_self] at h1
      try simp only [Int.toNat_natCast] at h1
      try simp only [Int.toNat_zero] at h1
      simp only [Bool.cond_true_left, Bool.cond_false_right, Bool.cond_true_right, Bool.cond_false_left, Bool.or_eq_true, Bool.and_eq_true, decide_eq_true_eq, Bool.or_eq_false_iff, Bool.and_eq_false_iff, decide_eq_false_iff_not, Bool.not_eq_true', Bool.not_eq_false', Bool.not_eq_eq_eq_not, Bool.not_true, Bool.not_false] at h1
      refine AWPD.seq fun K10 hK10 => ?_
      -- region 8
      refine AWPD.keep [13, 15] rfl ?_
      refine AWPD.region tabOK rfl ?_
      repeat refine And.intro (by first | exact fun h => h | exact fun _ => rfl | (intro h; rw [h]; rfl) | omega | ((try dsimp only [Ty.T]); (try simp only [castL_self]); (try simp only [Int.toNat_natCast]); (try simp only [Int.toNat_zero]); (try simp only [true_and]); omega) | (intros; (try dsimp only [Ty.T]); (try simp only [castL_self]); (try simp only [Int.toNat_natCast]); (try simp only [Int.toNat_zero]); (try simp only [true_and]); omega) | ((try dsimp only [Ty.T, Ty.size]); (try simp only [castL_self, Int.toNat_natCast, Int.toNat_zero, true_and, List.length_append, List.length_set, List.length_cons, List.length_nil, Nat.zero_add, Nat.mul_one]); omega) | ((try dsimp only [Ty.T, Ty.size]); (try simp only [castL_self, Int.toNat_natCast, Int.toNat_zero, Int.toNat_one, true_and, List.length_append, List.length_set, List.length_drop, List.length_take, List.length_replicate, List.length_cons, List.length_nil, Nat.zero_add, Nat.mul_one]); omega) | decide | (intros; simp_all; done) | (intros; simp_all; omega)) ?_
      refine hK10 _ _ ?_
      clear hK10
      refine AWPD.ret (And.intro (.inl rfl) ?_)
      -- result 0
      refine RetD.one ?_
      refine fitB rfl ?_
      by_cases hz : pairE p q ws e w = 0
      · exfalso
        have := pair_zero (pair_of hz).swap
        omega
      · simp [hz]
    · try dsimp only [Ty.T] at h1
      try simp only [castL_self] at h1
      try simp only [Int.toNat_natCast] at h1
      try simp only [Int.toNat_zero] at h1
      simp only [Bool.cond_true_left, Bool.cond_false_right, Bool.cond_true_right, Bool.cond_false_left, Bool.or_eq_true, Bool.and_eq_true, decide_eq_true_eq, Bool.or_eq_false_iff, Bool.and_eq_false_iff, decide_eq_false_iff_not, Bool.not_eq_true', Bool.not_eq_false', Bool.not_eq_eq_eq_not, Bool.not_true, Bool.not_false] at h1
      refine AWPD.skip ?_
      refine hK8 _ _ ?_
      clear hK8
      refine AWPD.seq fun K11 hK11 => ?_
      -- region 9
      refine AWPD.keep [12, 14, 16] rfl ?_
      refine AWPD.region tabOK rfl ?_
      repeat refine And.intro (by first | exact fun h => h | exact fun _ => rfl | (intro h; rw [h]; rfl) | omega | ((try dsimp only [Ty.T]); (try simp only [castL_self]); (try simp only [Int.toNat_natCast]); (try simp only [Int.toNat_zero]); (try simp only [true_and]); omega) | (intros; (try dsimp only [Ty.T]); (try simp only [castL_self]); (try simp only [Int.toNat_natCast]); (try simp only [Int.toNat_zero]); (try simp only [true_and]); omega) | ((try dsimp only [Ty.T, Ty.size]); (try simp only [castL_self, Int.toNat_natCast, Int.toNat_zero, true_and, List.length_append, List.length_set, List.length_cons, List.length_nil, Nat.zero_add, Nat.mul_one]); omega) | ((try dsimp only [Ty.T, Ty.size]); (try simp only [castL_self, Int.toNat_natCast, Int.toNat_zero, Int.toNat_one, true_and, List.length_append, List.length_set, List.length_drop, List.length_take, List.length_replicate, List.length_cons, List.length_nil, Nat.zero_add, Nat.mul_one]); omega) | decide | (intros; simp_all; done) | (intros; simp_all; omega)) ?_
      refine hK11 _ _ ?_
      clear hK11
      refine AWPD.ret (And.intro (.inl rfl) ?_)
      -- result 1
      refine RetD.one ?_
      refine fitB rfl ?_
      have hz : pairE p q ws e w = 0 := by omega
      have pr := pair_of hz
      have hx := pr.xin
      have ha := known_agree pr
      cases hk : knownR p q ws e w with
      | false => simp only [castL_self]; simp; omega
      | true =>
        rw [← ha hk]
        simp only [castL_self]
        simp
        omega
end Go.Proofs.YtkdihpajgmiolaaDoor
