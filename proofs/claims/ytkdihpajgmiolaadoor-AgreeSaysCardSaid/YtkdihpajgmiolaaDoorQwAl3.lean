/-
  WALKS of the laws of how sure one is: AgreeNot, AgreeSum, TopSure; and the laws behind them.
-/
import Derived.Test.YtkdihpajgmiolaaDoorQwAp
namespace Go.Proofs.YtkdihpajgmiolaaDoor
open Go Go.Qw
set_option maxRecDepth 10000
set_option linter.unusedSimpArgs false
set_option linter.unusedVariables false
set_option linter.unusedSectionVars false


theorem fact_pair : pairE [0, 0, 0, 0] [0, 1, 2, 3] [1, 1, 1, 1] 3 0 = 0 := by decide +kernel
theorem fact_sure : sureR [0, 0, 0, 0] [0, 1, 2, 3] [1, 1, 1, 1] 3 0 = (1, 2) := by decide +kernel
theorem fact_pair2 : pairE [0, 0] [0, 1] [1, 1] 3 0 = 0 := by decide +kernel
theorem fact_sure2 : sureR [0, 0] [0, 1] [1, 1] 3 0 = (1, 1) := by decide +kernel
theorem Pair.swap {p q ws : List Int} {e w : Int} (h : Pair p q ws e w) : Pair q p ws e w := by
  have hl := h.ql
  have m := h.sev.mask
  refine ⟨⟨by simp, by simp, fun i hi => ?_, fun i hi => ?_, ?_⟩, h.hq, h.hp, hl.symm, by rw [hl]; exact h.wl, h.wt, by rw [hl]; exact h.em, by rw [hl]; exact h.wi⟩
  · match i, hi with
    | 0, _ => exact h.hq
    | 1, _ => exact h.hp
    | i + 2, hi => exact absurd hi (by simp)
  · match i, hi with
    | 0, _ => rfl
    | 1, _ => exact hl.symm
    | i + 2, hi => exact absurd hi (by simp)
  · show maskB e (q.length : Int) = true
    rw [hl]; exact m
theorem Pair.belP {p q ws : List Int} {e w : Int} (h : Pair p q ws e w) : Bel p ws := ⟨h.hp, h.wl, h.wt⟩
theorem Pair.belQ {p q ws : List Int} {e w : Int} (h : Pair p q ws e w) : Bel q ws := h.swap.belP
theorem Pair.sure {p q ws : List Int} {e w : Int} (h : Pair p q ws e w) : sureR p q ws e w = xAt p ws e.toNat w.toNat := by unfold sureR xAt; rw [if_pos (pair_zero h)]
theorem sure_at {p ws : List Int} {e i : Nat} (hi : i < p.length) : (sureP p ws e p.length).getD i (0, 0) = xAt p ws e i := sureP_get p ws e hi
theorem linked_step {p q : List Int} {i j w : Nat} (hi : i < p.length) (hj : j < p.length) (h : p.getD i 0 = p.getD j 0 ∨ q.getD i 0 = q.getD j 0) (hl : linked [p, q] i w) : linked [p, q] j w := fun c hc => by
  have e : c i = c j := by
    rcases h with h | h
    · exact hc 0 (by simp) i j hi hj h
    · exact hc 1 (by simp) i j hi hj h
  rw [← e]
  exact hl c hc
open Classical in
theorem known_agree {p q ws : List Int} {e w : Int} (h : Pair p q ws e w) (hk : knownR p q ws e w = true) : sureR p q ws e w = sureR q p ws e w := by
  have hl := h.ql
  have hw := h.wi
  have hwl : w.toNat < p.length := by omega
  unfold knownR at hk
  rw [if_pos (pair_zero h)] at hk
  have svs : Sev [p, q] ((sameM p q ws e.toNat w.toNat p.length : Nat) : Int) := h.sev.other (mask_of (p := p) (sameM_lt _ _ _ _ _ _))
  obtain ⟨_, hb⟩ := (com_bit svs (sameM p q ws e.toNat w.toNat p.length) w.toNat).1 hk
  have hs : ∀ i, i < p.length → linked [p, q] i w.toNat → xAt p ws e.toNat i = xAt p ws e.toNat w.toNat ∧ xAt q ws e.toNat i = xAt q ws e.toNat w.toNat := fun i hi hli => by
    have := hb i hi hli
    rw [sameM_bit, decide_eq_true hi, Bool.true_and, decide_eq_true_eq, sure_at hi, sure_at hwl, sure_at (p := q) (by omega), sure_at (p := q) (by omega)] at this
    exact this
  rw [h.sure, h.swap.sure]
  exact aumann h.belP h.belQ e.toNat (fun i => linked [p, q] i w.toNat) hwl (fun c _ => rfl) (fun i j hi hj he hm => linked_step hi hj (.inl he) hm) (fun i j hi hj he hm => linked_step hi hj (.inr he) hm) (fun i hi hm => (hs i hi hm).1) (fun i hi hm => (hs i hi hm).2)
theorem Pair.xin {p q ws : List Int} {e w : Int} (h : Pair p q ws e w) : 0 ≤ (sureR p q ws e w).1 ∧ (sureR p q ws e w).1 ≤ (sureR p q ws e w).2 ∧ 1 ≤ (sureR p q ws e w).2 ∧ (sureR p q ws e w).2 ≤ 600 := by
  have hw := h.wi
  rw [h.sure]
  exact h.belP.xin e.toNat (by omega)

theorem agreeFact_fn  : LiftsG Tryd.prog tabG 10 [] (.b true) := by
  refine LiftsG.of_body 22 [.tmp 0] Tryd.func10 rfl Tryd.ntmps10 (by kernel_rfl) rfl rfl fun w0 X0 hG0 => ?_
  refine AWPD.seq fun K1 hK1 => ?_
  -- region 0
  refine AWPD.keep [] rfl ?_
  refine AWPD.region tabOK rfl ?_
  refine hK1 _ _ ?_
  clear hK1
  refine AWPD.seq fun K2 hK2 => ?_
  -- region 1
  refine AWPD.keep [] rfl ?_
  refine AWPD.region tabOK rfl ?_
  refine Exists.intro _ (Exists.intro _ (And.intro (StepD.callG tabG_stays rfl hG0 (sureR_fn _ _ _ _ _) rfl rfl rfl) (And.intro rfl (And.intro trivial ?_))))
  repeat refine And.intro (by first | exact fun h => h | exact fun _ => rfl | (intro h; rw [h]; rfl) | omega | (intros; (try dsimp only [Ty.T, Ty.size]); (try simp only [castL_self, Int.toNat_natCast, Int.toNat_zero, Int.toNat_one, true_and, List.length_append, List.length_set, List.length_drop, List.length_take, List.length_replicate, List.length_cons, List.length_nil, Nat.zero_add, Nat.mul_one]); omega) | decide | (intros; simp_all; done) | (intros; simp_all; omega)) ?_
  refine hK2 _ _ ?_
  clear hK2
  refine AWPD.seq fun K3 hK3 => ?_
  -- region 2
  refine AWPD.keep [1, 2] rfl ?_
  refine AWPD.region tabOK rfl ?_
  repeat refine And.intro (by first | exact fun h => h | exact fun _ => rfl | (intro h; rw [h]; rfl) | omega | (intros; (try dsimp only [Ty.T, Ty.size]); (try simp only [castL_self, Int.toNat_natCast, Int.toNat_zero, Int.toNat_one, true_and, List.length_append, List.length_set, List.length_drop, List.length_take, List.length_replicate, List.length_cons, List.length_nil, Nat.zero_add, Nat.mul_one]); omega) | decide | (intros; simp_all; done) | (intros; simp_all; omega)) ?_
  refine hK3 _ _ ?_
  clear hK3
  refine AWPD.ret (And.intro (.inl rfl) ?_)
  -- result 0
  refine RetD.one ?_
  refine fitB rfl ?_
  rw [fact_pair, fact_sure]
  rfl
theorem agreeNot_fn (p q ws : List Int) (e w : Int) : LiftsG Tryd.prog tabG 6 [.sl .int p, .sl .int q, .sl .int ws, .i e, .i w] (.b true) := by
  refine LiftsG.of_body 88 [.tmp 10] Tryd.func6 rfl Tryd.ntmps6 (by kernel_rfl) rfl rfl fun w0 X0 hG0 => ?_
  refine AWPD.seq fun K1 hK1 => ?_
  -- region 0
  refine AWPD.keep [0, 1, 2, 3, 4] rfl ?_
  refine AWPD.region tabOK rfl ?_
  refine hK1 _ _ ?_
  clear hK1
  refine AWPD.seq fun K2 hK2 => ?_
  -- region 1
  refine AWPD.keep [0, 1, 2, 3, 4] rfl ?_
  refine AWPD.region tabOK rfl ?_
  refine Exists.intro _ (Exists.intro _ (And.intro (StepD.callG tabG_stays rfl hG0 (agreeFact_fn) rfl rfl rfl) (And.intro rfl (And.intro trivial ?_))))
  refine hK2 _ _ ?_
  clear hK2
  refine AWPD.seq fun K3 hK3 => ?_
  refine AWPD.seq fun K4 hK4 => ?_
  -- region 2
  refine AWPD.keep [0, 1, 2, 3, 4, 11] rfl ?_
  refine AWPD.region tabOK rfl ?_
  refine hK4 _ _ ?_
  clear hK4
  first | refine AWPD.condP rfl (fun h0 => ?_) (fun h0 => ?_) | refine AWPD.condN rfl (fun h0 => ?_) (fun h0 => ?_) | refine AWPD.condAP rfl (fun h0 => ?_) (fun h0 => ?_) | refine AWPD.condOP rfl (fun h0 => ?_) (fun h0 => ?_) | refine AWPD.condONN rfl (fun h0 => ?_) (fun h0 => ?_) | refine AWPD.condOPN rfl (fun h0 => ?_) (fun h0 => ?_) | refine AWPD.condA rfl (fun h0 => ?_) (fun h0 => ?_) | refine AWPD.condO rfl (fun h0 => ?_) (fun h0 => ?_) | refine AWPD.cond rfl (fun h0 => ?_) (fun h0 => ?_)
  · try dsimp only [Ty.T] at h0
    try simp only [castL_self] at h0
    try simp only [Int.toNat_natCast] at h0
    try simp only [Int.toNat_zero] at h0
    exact absurd h0 (by decide)
  · try dsimp only [Ty.T] at h0
    try simp only [castL_self] at h0
    try simp only [Int.toNat_natCast] at h0
    try simp only [Int.toNat_zero] at h0
    refine AWPD.skip ?_
    refine hK3 _ _ ?_
    clear hK3
    refine AWPD.seq fun K5 hK5 => ?_
    -- region 4
    refine AWPD.keep [0, 1, 2, 3, 4] rfl ?_
    refine AWPD.region tabOK rfl ?_
    refine Exists.intro _ (Exists.intro _ (And.intro (StepD.callG tabG_stays rfl hG0 (knownR_fn _ _ _ _ _) rfl rfl rfl) (And.intro rfl (And.intro trivial ?_))))
    refine hK5 _ _ ?_
    clear hK5
    refine AWPD.seq fun K6 hK6 => ?_
    -- region 5
    refine AWPD.keep [0, 1, 2, 3, 4, 12, 13] rfl ?_
    refine AWPD.region tabOK rfl ?_
    refine Exists.intro _ (Exists.intro _ (And.intro (StepD.callG tabG_stays rfl hG0 (sureR_fn _ _ _ _ _) rfl rfl rfl) (And.intro rfl (And.intro trivial ?_))))
    repeat refine And.intro (by first | exact fun h => h | exact fun _ => rfl | (intro h; rw [h]; rfl) | omega | (intros; (try dsimp only [Ty.T, Ty.size]); (try simp only [castL_self, Int.toNat_natCast, Int.toNat_zero, Int.toNat_one, true_and, List.length_append, List.length_set, List.length_drop, List.length_take, List.length_replicate, List.length_cons, List.length_nil, Nat.zero_add, Nat.mul_one]); omega) | decide | (intros; simp_all; done) | (intros; simp_all; omega)) ?_
    refine hK6 _ _ ?_
    clear hK6
    refine AWPD.seq fun K7 hK7 => ?_
    -- region 6
    refine AWPD.keep [0, 1, 2, 3, 4, 12, 13, 14, 15] rfl ?_
    refine AWPD.region tabOK rfl ?_
    refine Exists.intro _ (Exists.intro _ (And.intro (StepD.callG tabG_stays rfl hG0 (sureR_fn _ _ _ _ _) rfl rfl rfl) (And.intro rfl (And.intro trivial ?_))))
    repeat refine And.intro (by first | exact fun h => h | exact fun _ => rfl | (intro h; rw [h]; rfl) | omega | (intros; (try dsimp only [Ty.T, Ty.size]); (try simp only [castL_self, Int.toNat_natCast, Int.toNat_zero, Int.toNat_one, true_and, List.length_append, List.length_set, List.length_drop, List.length_take, List.length_replicate, List.length_cons, List.length_nil, Nat.zero_add, Nat.mul_one]); omega) | decide | (intros; simp_all; done) | (intros; simp_all; omega)) ?_
    refine hK7 _ _ ?_
    clear hK7
    refine AWPD.seq fun K8 hK8 => ?_
    refine AWPD.seq fun K9 hK9 => ?_
    -- region 7
    refine AWPD.keep [12, 13, 14, 15, 16, 17] rfl ?_
    refine AWPD.region tabOK rfl ?_
    repeat refine And.intro (by first | exact fun h => h | exact fun _ => rfl | (intro h; rw [h]; rfl) | omega | (intros; (try dsimp only [Ty.T, Ty.size]); (try simp only [castL_self, Int.toNat_natCast, Int.toNat_zero, Int.toNat_one, true_and, List.length_append, List.length_set, List.length_drop, List.length_take, List.length_replicate, List.length_cons, List.length_nil, Nat.zero_add, Nat.mul_one]); omega) | decide | (intros; simp_all; done) | (intros; simp_all; omega)) ?_
    refine hK9 _ _ ?_
    clear hK9
    first | refine AWPD.cond rfl (fun h1 => ?_) (fun h1 => ?_)
    · try dsimp only [Ty.T] at h1
      try simp only [castL_self] at h1
      try simp only [Int.toNat_natCast] at h1
      try simp only [Int.toNat_zero] at h1
      try simp only [Bool.cond_true_left, Bool.cond_false_right, Bool.cond_true_right, Bool.cond_false_left, Bool.or_eq_true, Bool.and_eq_true, decide_eq_true_eq, Bool.or_eq_false_iff, Bool.and_eq_false_iff, decide_eq_false_iff_not, Bool.not_eq_true', Bool.not_eq_false', Bool.not_eq_eq_eq_not, Bool.not_true, Bool.not_false] at h1
      refine AWPD.seq fun K10 hK10 => ?_
      -- region 8
      refine AWPD.keep [13, 15] rfl ?_
      refine AWPD.region tabOK rfl ?_
      repeat refine And.intro (by first | exact fun h => h | exact fun _ => rfl | (intro h; rw [h]; rfl) | omega | (intros; (try dsimp only [Ty.T, Ty.size]); (try simp only [castL_self, Int.toNat_natCast, Int.toNat_zero, Int.toNat_one, true_and, List.length_append, List.length_set, List.length_drop, List.length_take, List.length_replicate, List.length_cons, List.length_nil, Nat.zero_add, Nat.mul_one]); omega) | decide | (intros; simp_all; done) | (intros; simp_all; omega)) ?_
      refine hK10 _ _ ?_
      clear hK10
      refine AWPD.ret (And.intro (.inl rfl) ?_)
      -- result 0
      refine RetD.one ?_
      refine fitB rfl ?_
      by_cases hz : pairE p q ws e w = 0
      · exfalso
        have := pair_zero (pair_of hz).swap
        omega
      · simp [hz]
    · try dsimp only [Ty.T] at h1
      try simp only [castL_self] at h1
      try simp only [Int.toNat_natCast] at h1
      try simp only [Int.toNat_zero] at h1
      try simp only [Bool.cond_true_left, Bool.cond_false_right, Bool.cond_true_right, Bool.cond_false_left, Bool.or_eq_true, Bool.and_eq_true, decide_eq_true_eq, Bool.or_eq_false_iff, Bool.and_eq_false_iff, decide_eq_false_iff_not, Bool.not_eq_true', Bool.not_eq_false', Bool.not_eq_eq_eq_not, Bool.not_true, Bool.not_false] at h1
      refine AWPD.skip ?_
      refine hK8 _ _ ?_
      clear hK8
      refine AWPD.seq fun K11 hK11 => ?_
      -- region 9
      refine AWPD.keep [12, 14, 16] rfl ?_
      refine AWPD.region tabOK rfl ?_
      repeat refine And.intro (by first | exact fun h => h | exact fun _ => rfl | (intro h; rw [h]; rfl) | omega | (intros; (try dsimp only [Ty.T, Ty.size]); (try simp only [castL_self, Int.toNat_natCast, Int.toNat_zero, Int.toNat_one, true_and, List.length_append, List.length_set, List.length_drop, List.length_take, List.length_replicate, List.length_cons, List.length_nil, Nat.zero_add, Nat.mul_one]); omega) | decide | (intros; simp_all; done) | (intros; simp_all; omega)) ?_
      refine hK11 _ _ ?_
      clear hK11
      refine AWPD.ret (And.intro (.inl rfl) ?_)
      -- result 1
      refine RetD.one ?_
      refine fitB rfl ?_
      have hz : pairE p q ws e w = 0 := by omega
      have pr := pair_of hz
      have hx := pr.xin
      have ha := known_agree pr
      cases hk : knownR p q ws e w with
      | false => simp only [castL_self]; simp; omega
      | true =>
        rw [← ha hk]
        simp only [castL_self]
        simp
        omega

def sumE (p ws : List Int) (e i : Nat) : Int := sumN (fun a => if p.getD a 0 = nextP p a then inB ws (fun b => p.getD b 0 = p.getD a 0 ∧ e.testBit b = true) p.length else 0) i
def haveE (ws : List Int) (e i : Nat) : Int := sumN (fun a => if e.testBit a = true then ws.getD a 0 else 0) i
def massE (p ws : List Int) (i j : Nat) : Int := sumN (fun a => if p.getD a 0 = p.getD i 0 then ws.getD a 0 else 0) j
def firstTo (p : List Int) (i j : Nat) : Bool := decide (∀ a ∈ List.range j, p.getD a 0 = p.getD i 0 → i ≤ a)
theorem first_yes {p : List Int} {i j : Nat} (h : p.getD j 0 = p.getD i 0) : (bif firstTo p i j then decide ((i : Int) ≤ (j : Int)) else false) = firstTo p i (j + 1) := by
  unfold firstTo
  rw [Bool.eq_iff_iff]
  simp only [Bool.cond_false_right, Bool.and_eq_true, decide_eq_true_eq, List.mem_range]
  constructor
  · rintro ⟨h1, h2⟩ a ha he
    by_cases haj : a = j
    · omega
    · exact h1 a (by omega) he
  · intro hh
    exact ⟨fun a ha => hh a (by omega), by have := hh j (by omega) h; omega⟩
theorem first_no {p : List Int} {i j : Nat} (h : ¬p.getD j 0 = p.getD i 0) : firstTo p i j = firstTo p i (j + 1) := by
  unfold firstTo
  rw [Bool.eq_iff_iff]
  simp only [decide_eq_true_eq, List.mem_range]
  constructor
  · intro h1 a ha he
    by_cases haj : a = j
    · subst haj; exact absurd he h
    · exact h1 a (by omega) he
  · exact fun hh a ha => hh a (by omega)
theorem mass_yes {p ws : List Int} {i j : Nat} (h : p.getD j 0 = p.getD i 0) : massE p ws i j + ws.getD j 0 = massE p ws i (j + 1) := by
  unfold massE; rw [sumN, if_pos h]
theorem mass_no {p ws : List Int} {i j : Nat} (h : ¬p.getD j 0 = p.getD i 0) : massE p ws i j = massE p ws i (j + 1) := by
  unfold massE; rw [sumN, if_neg h, Int.add_zero]
theorem Bel.mass {p ws : List Int} (b : Bel p ws) {i j : Nat} (hj : j ≤ p.length) : 0 ≤ massE p ws i j ∧ massE p ws i j ≤ 600 := by
  have h12 := b.len
  have h : ∀ a, a < j → 0 ≤ (if p.getD a 0 = p.getD i 0 then ws.getD a 0 else 0) ∧ (if p.getD a 0 = p.getD i 0 then ws.getD a 0 else 0) ≤ 50 := fun a ha => by
    have := b.wt.2 a (by rw [b.wl]; omega)
    split <;> omega
  have h2 := sumN_le (f := fun a => if p.getD a 0 = p.getD i 0 then ws.getD a 0 else 0) fun a ha => (h a ha).2
  have h1 := sumN_nonneg fun a ha => (h a ha).1
  unfold massE
  omega
theorem first_end {p : List Int} (hp : partE p = 0) {i : Nat} (hi : i < p.length) : firstTo p i p.length = true ↔ p.getD i 0 = nextP p i := by
  have hok := (partE_good hp).2
  unfold firstTo
  simp only [decide_eq_true_eq, List.mem_range]
  constructor
  · intro h
    have hoi := hok i hi
    rcases Int.lt_or_le (p.getD i 0) (nextP p i) with hlt | hge
    · obtain ⟨j, hj, he⟩ := seen_before hok i (by omega) (p.getD i 0) hoi.1 hlt
      have := h j (by omega) he
      omega
    · omega
  · intro h a ha he
    rcases Nat.lt_or_ge a i with hlt | hge
    · exfalso
      have h1 := hok a ha
      have h2 := nextP_mono p (show a + 1 ≤ i by omega)
      by_cases h3 : p.getD a 0 = nextP p a
      · rw [← nextP_yes h3] at h2; omega
      · rw [← nextP_no h3] at h2; omega
    · exact hge
theorem first_sum (p : List Int) (g : Int → Int) : ∀ i, okP p i → sumN (fun a => if p.getD a 0 = nextP p a then g (p.getD a 0) else 0) i = sumN (fun k => g (k : Int)) (nextP p i).toNat
  | 0, _ => by simp [sumN, nextP]
  | i + 1, h => by
    have ih := first_sum p g i fun j hj => h j (by omega)
    have hn := nextP_in p i
    rw [sumN, ih]
    by_cases hy : p.getD i 0 = nextP p i
    · rw [if_pos hy, ← nextP_yes hy, show (nextP p i + 1).toNat = (nextP p i).toNat + 1 by omega, sumN, hy, show ((nextP p i).toNat : Int) = nextP p i by omega]
    · rw [if_neg hy, ← nextP_no hy, Int.add_zero]
theorem Bel.sum_all {p ws : List Int} (b : Bel p ws) (e : Nat) : sumE p ws e p.length = haveE ws e p.length := by
  have hok := (partE_good b.hp).2
  unfold sumE haveE
  rw [first_sum p (fun k => inB ws (fun b => p.getD b 0 = k ∧ e.testBit b = true) p.length) p.length hok, sumN_class (cls := fun i => (p.getD i 0).toNat) (K := (nextP p p.length).toNat) fun i hi => b.cls hi]
  refine sumN_congr fun k hk => ?_
  unfold inB
  refine sumN_congr fun i hi => ?_
  have h1 := hok i hi
  by_cases h : (p.getD i 0).toNat = k
  · rw [if_pos h]
    by_cases he : e.testBit i = true
    · rw [if_pos he, if_pos ⟨by omega, he⟩]
    · rw [if_neg he, if_neg fun hh => he hh.2]
  · rw [if_neg h, if_neg fun hh => h (by omega)]
theorem sumE_yes {p ws : List Int} {e i : Nat} (h : p.getD i 0 = nextP p i) : sumE p ws e i + inB ws (fun b => p.getD b 0 = p.getD i 0 ∧ e.testBit b = true) p.length = sumE p ws e (i + 1) := by
  unfold sumE; rw [sumN, if_pos h]
theorem sumE_no {p ws : List Int} {e i : Nat} (h : ¬p.getD i 0 = nextP p i) : sumE p ws e i = sumE p ws e (i + 1) := by
  unfold sumE; rw [sumN, if_neg h, Int.add_zero]
theorem Bel.sumE_in {p ws : List Int} (b : Bel p ws) (e : Nat) {i : Nat} (hi : i ≤ p.length) : 0 ≤ sumE p ws e i ∧ sumE p ws e i ≤ 7200 := by
  have h12 := b.len
  have h : ∀ a, a < i → 0 ≤ (if p.getD a 0 = nextP p a then inB ws (fun b => p.getD b 0 = p.getD a 0 ∧ e.testBit b = true) p.length else 0) ∧ (if p.getD a 0 = nextP p a then inB ws (fun b => p.getD b 0 = p.getD a 0 ∧ e.testBit b = true) p.length else 0) ≤ 600 := fun a ha => by
    have := b.in_w fun j => p.getD j 0 = p.getD a 0 ∧ e.testBit j = true
    split <;> omega
  have h2 := sumN_le (f := fun a => if p.getD a 0 = nextP p a then inB ws (fun b => p.getD b 0 = p.getD a 0 ∧ e.testBit b = true) p.length else 0) fun a ha => (h a ha).2
  have h1 := sumN_nonneg fun a ha => (h a ha).1
  unfold sumE
  omega
theorem have_yes {ws : List Int} {e i : Nat} (h : e.testBit i = true) : haveE ws e i + ws.getD i 0 = haveE ws e (i + 1) := by
  unfold haveE; rw [sumN, if_pos h]
theorem have_no {ws : List Int} {e i : Nat} (h : ¬e.testBit i = true) : haveE ws e i = haveE ws e (i + 1) := by
  unfold haveE; rw [sumN, if_neg h, Int.add_zero]
theorem Bel.have_in {p ws : List Int} (b : Bel p ws) (e : Nat) {i : Nat} (hi : i ≤ p.length) : 0 ≤ haveE ws e i ∧ haveE ws e i ≤ 600 := by
  have h12 := b.len
  have h : ∀ a, a < i → 0 ≤ (if e.testBit a = true then ws.getD a 0 else 0) ∧ (if e.testBit a = true then ws.getD a 0 else 0) ≤ 50 := fun a ha => by
    have := b.wt.2 a (by rw [b.wl]; omega)
    split <;> omega
  have h2 := sumN_le (f := fun a => if e.testBit a = true then ws.getD a 0 else 0) fun a ha => (h a ha).2
  have h1 := sumN_nonneg fun a ha => (h a ha).1
  unfold haveE
  omega
/-- What the class weighs, cut. -/
theorem Bel.parts {p ws : List Int} (b : Bel p ws) (e : Nat) {i : Nat} (hi : i < p.length) :
    massE p ws i p.length % (xAt p ws e i).2 = 0 ∧ massE p ws i p.length / (xAt p ws e i).2 * (xAt p ws e i).1 = inB ws (fun j => p.getD j 0 = p.getD i 0 ∧ e.testBit j = true) p.length ∧ 0 ≤ massE p ws i p.length / (xAt p ws e i).2 ∧ massE p ws i p.length / (xAt p ws e i).2 ≤ 600 := by
  have c := b.cut e hi
  obtain ⟨g, hg, h1, h2⟩ := c.fac
  have hm := b.mass (i := i) (Nat.le_refl p.length)
  have e1 : massE p ws i p.length = (xAt p ws e i).2 * g := h2
  have hp := c.pos
  have hd : massE p ws i p.length / (xAt p ws e i).2 = g := by rw [e1]; exact Int.mul_ediv_cancel_left g (by omega)
  rw [hd, h1]
  refine ⟨by rw [e1]; exact Int.mul_emod_right _ _, Int.mul_comm _ _, by omega, ?_⟩
  have : 1 * g ≤ (xAt p ws e i).2 * g := Int.mul_le_mul_of_nonneg_right hp (by omega)
  omega
theorem Pair.at_ {p q ws : List Int} {e w : Int} (h : Pair p q ws e w) {i : Nat} (hi : i < p.length) : Pair p q ws e (i : Int) := ⟨h.sev, h.hp, h.hq, h.ql, h.wl, h.wt, h.em, by omega⟩

theorem agreeSum_fn (p q ws : List Int) (e : Int) : LiftsG Tryd.prog tabG 3 [.sl .int p, .sl .int q, .sl .int ws, .i e] (.b true) := by
  refine LiftsG.of_body 118 [.tmp 8] Tryd.func3 rfl Tryd.ntmps3 (by kernel_rfl) rfl rfl fun w0 X0 hG0 => ?_
  refine AWPD.seq fun K1 hK1 => ?_
  -- region 0
  refine AWPD.keep [0, 1, 2, 3] rfl ?_
  refine AWPD.region tabOK rfl ?_
  refine hK1 _ _ ?_
  clear hK1
  refine AWPD.seq fun K2 hK2 => ?_
  -- region 1
  refine AWPD.keep [0, 1, 2, 3] rfl ?_
  refine AWPD.region tabOK rfl ?_
  refine Exists.intro _ (Exists.intro _ (And.intro (StepD.callG tabG_stays rfl hG0 (agreeFact_fn) rfl rfl rfl) (And.intro rfl (And.intro trivial ?_))))
  refine hK2 _ _ ?_
  clear hK2
  refine AWPD.seq fun K3 hK3 => ?_
  refine AWPD.seq fun K4 hK4 => ?_
  -- region 2
  refine AWPD.keep [0, 1, 2, 3, 9] rfl ?_
  refine AWPD.region tabOK rfl ?_
  refine hK4 _ _ ?_
  clear hK4
  first | refine AWPD.condP rfl (fun h0 => ?_) (fun h0 => ?_) | refine AWPD.condN rfl (fun h0 => ?_) (fun h0 => ?_) | refine AWPD.condAP rfl (fun h0 => ?_) (fun h0 => ?_) | refine AWPD.condOP rfl (fun h0 => ?_) (fun h0 => ?_) | refine AWPD.condONN rfl (fun h0 => ?_) (fun h0 => ?_) | refine AWPD.condOPN rfl (fun h0 => ?_) (fun h0 => ?_) | refine AWPD.condA rfl (fun h0 => ?_) (fun h0 => ?_) | refine AWPD.condO rfl (fun h0 => ?_) (fun h0 => ?_) | refine AWPD.cond rfl (fun h0 => ?_) (fun h0 => ?_)
  · try dsimp only [Ty.T] at h0
    try simp only [castL_self] at h0
    try simp only [Int.toNat_natCast] at h0
    try simp only [Int.toNat_zero] at h0
    exact absurd h0 (by decide)
  · try dsimp only [Ty.T] at h0
    try simp only [castL_self] at h0
    try simp only [Int.toNat_natCast] at h0
    try simp only [Int.toNat_zero] at h0
    refine AWPD.skip ?_
    refine hK3 _ _ ?_
    clear hK3
    refine AWPD.seq fun K5 hK5 => ?_
    -- region 4
    refine AWPD.keep [0, 1, 2, 3] rfl ?_
    refine AWPD.region tabOK rfl ?_
    refine hK5 _ _ ?_
    clear hK5
    refine AWPD.seq fun K6 hK6 => ?_
    -- region 5
    refine AWPD.keep [0, 1, 2, 3, 10] rfl ?_
    refine AWPD.region tabOK rfl ?_
    refine hK6 _ _ ?_
    clear hK6
    refine AWPD.seq fun K7 hK7 => ?_
    refine AWPD.seq fun K8 hK8 => ?_
    -- region 6
    refine AWPD.keep [0, 1, 2, 3, 10, 11] rfl ?_
    refine AWPD.region tabOK rfl ?_
    refine hK8 _ _ ?_
    clear hK8
    refine AWPD.block ?_
    -- LOOP 0 live [0, 1, 2, 3, 10, 11, 12] changed [10, 11, 12]
    refine AWPD.loopK (σ := Nat) [0, 1, 2, 3] (fun i base => (10, .i (sumE p ws e.toNat i)) :: (11, .i (haveE ws e.toNat i)) :: (12, .i (i : Int)) :: base) (fun _ => []) (fun n i => n + i = p.length ∧ (0 < i → Pair p q ws e 0)) (p.length) 0 [] rfl rfl (⟨by omega, fun h => absurd h (by decide)⟩) (by decide) trivial (by repeat' first | exact True.intro | exact rfl | exact ⟨rfl, rfl⟩ | refine And.intro ?_ ?_) fun n0 i hI0 => ?_
    obtain ⟨hn0, hv0⟩ := hI0
    refine AWPD.seq fun K9 hK9 => ?_
    refine AWPD.seq fun K10 hK10 => ?_
    -- region 7
    refine AWPD.keep [0, 1, 2, 3, 10, 11, 12] rfl ?_
    refine AWPD.region tabOK rfl ?_
    repeat refine And.intro (by first | (simp only [hsx, castL_self, Int.toNat_zero, Int.toNat_one, List.getD_cons_zero, List.getD_cons_succ]; omega) | (intros; simp only [hsx, castL_self, Int.toNat_zero, Int.toNat_one, List.getD_cons_zero, List.getD_cons_succ]; omega) | exact fun h => h | exact fun _ => rfl | (intro h; rw [h]; rfl) | omega | (intros; (try dsimp only [Ty.T, Ty.size]); (try simp only [castL_self, Int.toNat_natCast, Int.toNat_zero, Int.toNat_one, true_and, List.length_append, List.length_set, List.length_drop, List.length_take, List.length_replicate, List.length_cons, List.length_nil, Nat.zero_add, Nat.mul_one]); omega) | decide | (intros; simp_all; done) | (intros; simp_all; omega)) ?_
    refine hK10 _ _ ?_
    clear hK10
    first | refine AWPD.condP rfl (fun h1 => ?_) (fun h1 => ?_) | refine AWPD.condN rfl (fun h1 => ?_) (fun h1 => ?_) | refine AWPD.condAP rfl (fun h1 => ?_) (fun h1 => ?_) | refine AWPD.condOP rfl (fun h1 => ?_) (fun h1 => ?_) | refine AWPD.condONN rfl (fun h1 => ?_) (fun h1 => ?_) | refine AWPD.condOPN rfl (fun h1 => ?_) (fun h1 => ?_) | refine AWPD.condA rfl (fun h1 => ?_) (fun h1 => ?_) | refine AWPD.condO rfl (fun h1 => ?_) (fun h1 => ?_) | refine AWPD.cond rfl (fun h1 => ?_) (fun h1 => ?_)
    · try dsimp only [Ty.T] at h1
      try simp only [castL_self] at h1
      try simp only [Int.toNat_natCast] at h1
      try simp only [Int.toNat_zero] at h1
      try simp only [Bool.cond_true_left, Bool.cond_false_right, Bool.cond_true_right, Bool.cond_false_left, Bool.or_eq_true, Bool.and_eq_true, decide_eq_true_eq, Bool.or_eq_false_iff, Bool.and_eq_false_iff, decide_eq_false_iff_not, Bool.not_eq_true', Bool.not_eq_false', Bool.not_eq_eq_eq_not, Bool.not_true, Bool.not_false] at h1
      have hil : i < p.length := by omega
      refine AWPD.skip ?_
      refine hK9 _ _ ?_
      clear hK9
      refine AWPD.seq fun K11 hK11 => ?_
      refine AWPD.block ?_
      refine AWPD.seq fun K12 hK12 => ?_
      -- region 9
      refine AWPD.keep [0, 1, 2, 3, 10, 11, 12] rfl ?_
      refine AWPD.region tabOK rfl ?_
      refine Exists.intro _ (Exists.intro _ (And.intro (StepD.callG tabG_stays rfl hG0 (sureR_fn _ _ _ _ _) rfl rfl rfl) (And.intro rfl (And.intro trivial ?_))))
      repeat refine And.intro (by first | (simp only [hsx, castL_self, Int.toNat_zero, Int.toNat_one, List.getD_cons_zero, List.getD_cons_succ]; omega) | (intros; simp only [hsx, castL_self, Int.toNat_zero, Int.toNat_one, List.getD_cons_zero, List.getD_cons_succ]; omega) | exact fun h => h | exact fun _ => rfl | (intro h; rw [h]; rfl) | omega | (intros; (try dsimp only [Ty.T, Ty.size]); (try simp only [castL_self, Int.toNat_natCast, Int.toNat_zero, Int.toNat_one, true_and, List.length_append, List.length_set, List.length_drop, List.length_take, List.length_replicate, List.length_cons, List.length_nil, Nat.zero_add, Nat.mul_one]); omega) | decide | (intros; simp_all; done) | (intros; simp_all; omega)) ?_
      refine hK12 _ _ ?_
      clear hK12
      refine AWPD.seq fun K13 hK13 => ?_
      refine AWPD.seq fun K14 hK14 => ?_
      -- region 10
      refine AWPD.keep [0, 1, 2, 3, 10, 11, 12, 13, 14] rfl ?_
      refine AWPD.region tabOK rfl ?_
      refine hK14 _ _ ?_
      clear hK14
      first | refine AWPD.condP rfl (fun h2 => ?_) (fun h2 => ?_) | refine AWPD.condN rfl (fun h2 => ?_) (fun h2 => ?_) | refine AWPD.condAP rfl (fun h2 => ?_) (fun h2 => ?_) | refine AWPD.condOP rfl (fun h2 => ?_) (fun h2 => ?_) | refine AWPD.condONN rfl (fun h2 => ?_) (fun h2 => ?_) | refine AWPD.condOPN rfl (fun h2 => ?_) (fun h2 => ?_) | refine AWPD.condA rfl (fun h2 => ?_) (fun h2 => ?_) | refine AWPD.condO rfl (fun h2 => ?_) (fun h2 => ?_) | refine AWPD.cond rfl (fun h2 => ?_) (fun h2 => ?_)
      · try dsimp only [Ty.T] at h2
        try simp only [castL_self] at h2
        try simp only [Int.toNat_natCast] at h2
        try simp only [Int.toNat_zero] at h2
        refine AWPD.seq fun K15 hK15 => ?_
        -- region 11
        refine AWPD.keep [12] rfl ?_
        refine AWPD.region tabOK rfl ?_
        refine hK15 _ _ ?_
        clear hK15
        refine AWPD.ret (And.intro (.inl rfl) ?_)
        -- result 0
        refine RetD.one ?_
        refine fitB rfl ?_
        by_cases hi0 : i = 0
        · subst hi0; rfl
        · exact absurd (pair_zero ((hv0 (by omega)).at_ hil)) h2
      · try dsimp only [Ty.T] at h2
        try simp only [castL_self] at h2
        try simp only [Int.toNat_natCast] at h2
        try simp only [Int.toNat_zero] at h2
        have pr : Pair p q ws e (i : Int) := pair_of (by simpa using h2)
        have pb := pr.belP
        have h12 := pb.len
        have hwl := pr.wl
        have hem := pr.em
        have hsx : sureR p q ws e (i : Int) = xAt p ws e.toNat i := by rw [pr.sure, Int.toNat_natCast]
        have hxi := pb.xin e.toNat hil
        have hpt := pb.parts e.toNat hil
        have hse := pb.sumE_in e.toNat (i := i) (by omega)
        have hhv := pb.have_in e.toNat (i := i) (by omega)
        have hiw := pb.in_w fun j => p.getD j 0 = p.getD i 0 ∧ e.toNat.testBit j = true
        have hwi := pb.wt.2 i (by omega)
        have hma := pb.mass (i := i) (Nat.le_refl p.length)
        refine AWPD.skip ?_
        refine hK13 _ _ ?_
        clear hK13
        refine AWPD.seq fun K16 hK16 => ?_
        -- region 12
        refine AWPD.keep [0, 1, 2, 3, 10, 11, 12, 13] rfl ?_
        refine AWPD.region tabOK rfl ?_
        refine hK16 _ _ ?_
        clear hK16
        refine AWPD.seq fun K17 hK17 => ?_
        -- region 13
        refine AWPD.keep [0, 1, 2, 3, 10, 11, 12, 13, 15] rfl ?_
        refine AWPD.region tabOK rfl ?_
        refine hK17 _ _ ?_
        clear hK17
        refine AWPD.seq fun K18 hK18 => ?_
        refine AWPD.seq fun K19 hK19 => ?_
        -- region 14
        refine AWPD.keep [0, 1, 2, 3, 10, 11, 12, 13, 15, 16] rfl ?_
        refine AWPD.region tabOK rfl ?_
        refine hK19 _ _ ?_
        clear hK19
        refine AWPD.block ?_
        -- LOOP 1 live [0, 1, 2, 3, 10, 11, 12, 13, 15, 16, 17] changed [15, 16, 17]
        refine AWPD.loopK (σ := Nat) [0, 1, 2, 3, 10, 11, 12] (fun j base => (13, .op 0 0) :: (15, .b (firstTo p i j)) :: (16, .i (massE p ws i j)) :: (17, .i (j : Int)) :: base) (fun j => [.arr 24 .int [(sureR p q ws e (i : Int)).1, (sureR p q ws e (i : Int)).2]]) (fun n j => n + j = p.length) (p.length) 0 [0] rfl rfl (by omega) (by decide) ⟨⟨rfl, rfl, rfl⟩, trivial⟩ (by repeat' first | exact True.intro | exact rfl | exact ⟨rfl, rfl⟩ | refine And.intro ?_ ?_) fun n1 j hI1 => ?_
        have hn1 := hI1
        refine AWPD.seq fun K20 hK20 => ?_
        refine AWPD.seq fun K21 hK21 => ?_
        -- region 15
        refine AWPD.keep [0, 1, 2, 3, 10, 11, 12, 13, 15, 16, 17] rfl ?_
        refine AWPD.region tabOK rfl ?_
        refine hK21 _ _ ?_
        clear hK21
        first | refine AWPD.condP rfl (fun h3 => ?_) (fun h3 => ?_) | refine AWPD.condN rfl (fun h3 => ?_) (fun h3 => ?_) | refine AWPD.condAP rfl (fun h3 => ?_) (fun h3 => ?_) | refine AWPD.condOP rfl (fun h3 => ?_) (fun h3 => ?_) | refine AWPD.condONN rfl (fun h3 => ?_) (fun h3 => ?_) | refine AWPD.condOPN rfl (fun h3 => ?_) (fun h3 => ?_) | refine AWPD.condA rfl (fun h3 => ?_) (fun h3 => ?_) | refine AWPD.condO rfl (fun h3 => ?_) (fun h3 => ?_) | refine AWPD.cond rfl (fun h3 => ?_) (fun h3 => ?_)
        · try dsimp only [Ty.T] at h3
          try simp only [castL_self] at h3
          try simp only [Int.toNat_natCast] at h3
          try simp only [Int.toNat_zero] at h3
          have hjl : j < p.length := by omega
          have hwj := pb.wt.2 j (by omega)
          have hmj := pb.mass (i := i) (j := j) (by omega)
          refine AWPD.skip ?_
          refine hK20 _ _ ?_
          clear hK20
          refine AWPD.seq fun K22 hK22 => ?_
          refine AWPD.block ?_
          refine AWPD.seq fun K23 hK23 => ?_
          -- region 17
          refine AWPD.keep [0, 1, 2, 3, 10, 11, 12, 13, 15, 16, 17] rfl ?_
          refine AWPD.draw tabOK [] rfl (by kernel_rfl) ?_
          repeat refine And.intro (by first | (simp only [hsx, castL_self, Int.toNat_zero, Int.toNat_one, List.getD_cons_zero, List.getD_cons_succ]; omega) | (intros; simp only [hsx, castL_self, Int.toNat_zero, Int.toNat_one, List.getD_cons_zero, List.getD_cons_succ]; omega) | exact fun h => h | exact fun _ => rfl | (intro h; rw [h]; rfl) | omega | (intros; (try dsimp only [Ty.T, Ty.size]); (try simp only [castL_self, Int.toNat_natCast, Int.toNat_zero, Int.toNat_one, true_and, List.length_append, List.length_set, List.length_drop, List.length_take, List.length_replicate, List.length_cons, List.length_nil, Nat.zero_add, Nat.mul_one]); omega) | decide | (intros; simp_all; done) | (intros; simp_all; omega)) ?_
          refine hK23 _ _ ?_
          clear hK23
          first | refine AWPD.condP rfl (fun h4 => ?_) (fun h4 => ?_) | refine AWPD.cond rfl (fun h4 => ?_) (fun h4 => ?_)
          · try dsimp only [Ty.T] at h4
            try simp only [castL_self] at h4
            try simp only [Int.toNat_natCast] at h4
            try simp only [Int.toNat_zero] at h4
            refine AWPD.seq fun K24 hK24 => ?_
            -- region 18
            refine AWPD.keep [0, 1, 2, 3, 10, 11, 12, 13, 15, 16, 17] rfl ?_
            refine AWPD.region tabOK rfl ?_
            repeat refine And.intro (by first | (simp only [hsx, castL_self, Int.toNat_zero, Int.toNat_one, List.getD_cons_zero, List.getD_cons_succ]; omega) | (intros; simp only [hsx, castL_self, Int.toNat_zero, Int.toNat_one, List.getD_cons_zero, List.getD_cons_succ]; omega) | exact fun h => h | exact fun _ => rfl | (intro h; rw [h]; rfl) | omega | (intros; (try dsimp only [Ty.T, Ty.size]); (try simp only [castL_self, Int.toNat_natCast, Int.toNat_zero, Int.toNat_one, true_and, List.length_append, List.length_set, List.length_drop, List.length_take, List.length_replicate, List.length_cons, List.length_nil, Nat.zero_add, Nat.mul_one]); omega) | decide | (intros; simp_all; done) | (intros; simp_all; omega)) ?_
            refine hK24 _ _ ?_
            clear hK24
            -- region 19
            refine AWPD.keep [0, 1, 2, 3, 10, 11, 12, 13, 15, 16, 17] rfl ?_
            refine AWPD.region tabOK rfl ?_
            repeat refine And.intro (by first | (simp only [hsx, castL_self, Int.toNat_zero, Int.toNat_one, List.getD_cons_zero, List.getD_cons_succ]; omega) | (intros; simp only [hsx, castL_self, Int.toNat_zero, Int.toNat_one, List.getD_cons_zero, List.getD_cons_succ]; omega) | exact fun h => h | exact fun _ => rfl | (intro h; rw [h]; rfl) | omega | (intros; (try dsimp only [Ty.T, Ty.size]); (try simp only [castL_self, Int.toNat_natCast, Int.toNat_zero, Int.toNat_one, true_and, List.length_append, List.length_set, List.length_drop, List.length_take, List.length_replicate, List.length_cons, List.length_nil, Nat.zero_add, Nat.mul_one]); omega) | decide | (intros; simp_all; done) | (intros; simp_all; omega)) ?_
            refine hK22 _ _ ?_
            clear hK22
            -- region 16
            refine AWPD.keep [0, 1, 2, 3, 10, 11, 12, 13, 15, 16, 17] rfl ?_
            refine AWPD.region tabOK rfl ?_
            repeat refine And.intro (by first | (simp only [hsx, castL_self, Int.toNat_zero, Int.toNat_one, List.getD_cons_zero, List.getD_cons_succ]; omega) | (intros; simp only [hsx, castL_self, Int.toNat_zero, Int.toNat_one, List.getD_cons_zero, List.getD_cons_succ]; omega) | exact fun h => h | exact fun _ => rfl | (intro h; rw [h]; rfl) | omega | (intros; (try dsimp only [Ty.T, Ty.size]); (try simp only [castL_self, Int.toNat_natCast, Int.toNat_zero, Int.toNat_one, true_and, List.length_append, List.length_set, List.length_drop, List.length_take, List.length_replicate, List.length_cons, List.length_nil, Nat.zero_add, Nat.mul_one]); omega) | decide | (intros; simp_all; done) | (intros; simp_all; omega)) ?_
            refine ⟨n1 - 1, j + 1, [0], by omega, by omega, ⟨by decide, rfl⟩, ⟨⟨rfl, rfl, rfl⟩, trivial⟩, ?_⟩
            repeat' first | exact first_yes h4 | exact first_no h4 | exact mass_yes h4 | exact mass_no h4 | exact True.intro | exact rfl | exact ⟨rfl, rfl⟩ | refine And.intro ?_ ?_
          · try dsimp only [Ty.T] at h4
            try simp only [castL_self] at h4
            try simp only [Int.toNat_natCast] at h4
            try simp only [Int.toNat_zero] at h4
            refine AWPD.skip ?_
            refine hK22 _ _ ?_
            clear hK22
            -- region 16
            refine AWPD.keep [0, 1, 2, 3, 10, 11, 12, 13, 15, 16, 17] rfl ?_
            refine AWPD.region tabOK rfl ?_
            repeat refine And.intro (by first | (simp only [hsx, castL_self, Int.toNat_zero, Int.toNat_one, List.getD_cons_zero, List.getD_cons_succ]; omega) | (intros; simp only [hsx, castL_self, Int.toNat_zero, Int.toNat_one, List.getD_cons_zero, List.getD_cons_succ]; omega) | exact fun h => h | exact fun _ => rfl | (intro h; rw [h]; rfl) | omega | (intros; (try dsimp only [Ty.T, Ty.size]); (try simp only [castL_self, Int.toNat_natCast, Int.toNat_zero, Int.toNat_one, true_and, List.length_append, List.length_set, List.length_drop, List.length_take, List.length_replicate, List.length_cons, List.length_nil, Nat.zero_add, Nat.mul_one]); omega) | decide | (intros; simp_all; done) | (intros; simp_all; omega)) ?_
            refine ⟨n1 - 1, j + 1, [0], by omega, by omega, ⟨by decide, rfl⟩, ⟨⟨rfl, rfl, rfl⟩, trivial⟩, ?_⟩
            repeat' first | exact first_yes h4 | exact first_no h4 | exact mass_yes h4 | exact mass_no h4 | exact True.intro | exact rfl | exact ⟨rfl, rfl⟩ | refine And.intro ?_ ?_
        · try dsimp only [Ty.T] at h3
          try simp only [castL_self] at h3
          try simp only [Int.toNat_natCast] at h3
          try simp only [Int.toNat_zero] at h3
          have hjl : j = p.length := by omega
          subst hjl
          refine AWPD.exit ?_
          refine hK18 _ _ ?_
          clear hK18
          refine AWPD.seq fun K25 hK25 => ?_
          refine AWPD.seq fun K26 hK26 => ?_
          -- region 20
          refine AWPD.keep [0, 1, 2, 3, 10, 11, 12, 13, 15, 16] rfl ?_
          refine AWPD.region tabOK rfl ?_
          repeat refine And.intro (by first | (simp only [hsx, castL_self, Int.toNat_zero, Int.toNat_one, List.getD_cons_zero, List.getD_cons_succ]; omega) | (intros; simp only [hsx, castL_self, Int.toNat_zero, Int.toNat_one, List.getD_cons_zero, List.getD_cons_succ]; omega) | exact fun h => h | exact fun _ => rfl | (intro h; rw [h]; rfl) | omega | (intros; (try dsimp only [Ty.T, Ty.size]); (try simp only [castL_self, Int.toNat_natCast, Int.toNat_zero, Int.toNat_one, true_and, List.length_append, List.length_set, List.length_drop, List.length_take, List.length_replicate, List.length_cons, List.length_nil, Nat.zero_add, Nat.mul_one]); omega) | decide | (intros; simp_all; done) | (intros; simp_all; omega)) ?_
          refine hK26 _ _ ?_
          clear hK26
          first | refine AWPD.condP rfl (fun h5 => ?_) (fun h5 => ?_) | refine AWPD.condN rfl (fun h5 => ?_) (fun h5 => ?_) | refine AWPD.condAP rfl (fun h5 => ?_) (fun h5 => ?_) | refine AWPD.condOP rfl (fun h5 => ?_) (fun h5 => ?_) | refine AWPD.condONN rfl (fun h5 => ?_) (fun h5 => ?_) | refine AWPD.condOPN rfl (fun h5 => ?_) (fun h5 => ?_) | refine AWPD.condA rfl (fun h5 => ?_) (fun h5 => ?_) | refine AWPD.condO rfl (fun h5 => ?_) (fun h5 => ?_) | refine AWPD.cond rfl (fun h5 => ?_) (fun h5 => ?_)
          · try dsimp only [Ty.T] at h5
            try simp only [castL_self] at h5
            try simp only [Int.toNat_natCast] at h5
            try simp only [Int.toNat_zero] at h5
            try simp only [Bool.cond_true_left, Bool.cond_false_right, Bool.cond_true_right, Bool.cond_false_left, Bool.or_eq_true, Bool.and_eq_true, decide_eq_true_eq, Bool.or_eq_false_iff, Bool.and_eq_false_iff, decide_eq_false_iff_not, Bool.not_eq_true', Bool.not_eq_false', Bool.not_eq_eq_eq_not, Bool.not_true, Bool.not_false] at h5
            exfalso; simp only [hsx, castL_self, Int.toNat_zero, Int.toNat_one, List.getD_cons_zero, List.getD_cons_succ, decide_eq_true_eq] at h5; omega
          · try dsimp only [Ty.T] at h5
            try simp only [castL_self] at h5
            try simp only [Int.toNat_natCast] at h5
            try simp only [Int.toNat_zero] at h5
            try simp only [Bool.cond_true_left, Bool.cond_false_right, Bool.cond_true_right, Bool.cond_false_left, Bool.or_eq_true, Bool.and_eq_true, decide_eq_true_eq, Bool.or_eq_false_iff, Bool.and_eq_false_iff, decide_eq_false_iff_not, Bool.not_eq_true', Bool.not_eq_false', Bool.not_eq_eq_eq_not, Bool.not_true, Bool.not_false] at h5
            refine AWPD.skip ?_
            refine hK25 _ _ ?_
            clear hK25
            refine AWPD.seq fun K27 hK27 => ?_
            refine AWPD.seq fun K28 hK28 => ?_
            -- region 22
            refine AWPD.keep [0, 1, 2, 3, 10, 11, 12, 13, 15, 16] rfl ?_
            refine AWPD.region tabOK rfl ?_
            refine hK28 _ _ ?_
            clear hK28
            first | refine AWPD.cond rfl (fun h6 => ?_) (fun h6 => ?_)
            · try dsimp only [Ty.T] at h6
              try simp only [castL_self] at h6
              try simp only [Int.toNat_natCast] at h6
              try simp only [Int.toNat_zero] at h6
              have hfe := (first_end pb.hp hil).1 h6
              -- region 23
              refine AWPD.keep [0, 1, 2, 3, 10, 11, 12, 13, 16] rfl ?_
              refine AWPD.draw tabOK [] rfl (by kernel_rfl) ?_
              repeat refine And.intro (by first | (simp only [hsx, castL_self, Int.toNat_zero, Int.toNat_one, List.getD_cons_zero, List.getD_cons_succ]; omega) | (intros; simp only [hsx, castL_self, Int.toNat_zero, Int.toNat_one, List.getD_cons_zero, List.getD_cons_succ]; omega) | exact fun h => h | exact fun _ => rfl | (intro h; rw [h]; rfl) | omega | (intros; (try dsimp only [Ty.T, Ty.size]); (try simp only [castL_self, Int.toNat_natCast, Int.toNat_zero, Int.toNat_one, true_and, List.length_append, List.length_set, List.length_drop, List.length_take, List.length_replicate, List.length_cons, List.length_nil, Nat.zero_add, Nat.mul_one]); omega) | decide | (intros; simp_all; done) | (intros; simp_all; omega)) ?_
              refine hK27 _ _ ?_
              clear hK27
              refine AWPD.seq fun K29 hK29 => ?_
              -- region 24
              refine AWPD.keep [0, 1, 2, 3, 10, 11, 12] rfl ?_
              refine AWPD.region tabOK rfl ?_
              refine Exists.intro _ (Exists.intro _ (And.intro (StepD.call (bit_fn _ _ (by omega) (by omega)) rfl rfl rfl) (And.intro rfl (And.intro trivial ?_))))
              refine hK29 _ _ ?_
              clear hK29
              first | refine AWPD.cond rfl (fun h7 => ?_) (fun h7 => ?_)
              · try dsimp only [Ty.T] at h7
                try simp only [castL_self] at h7
                try simp only [Int.toNat_natCast] at h7
                try simp only [Int.toNat_zero] at h7
                -- region 25
                refine AWPD.keep [0, 1, 2, 3, 10, 11, 12] rfl ?_
                refine AWPD.region tabOK rfl ?_
                repeat refine And.intro (by first | (simp only [hsx, castL_self, Int.toNat_zero, Int.toNat_one, List.getD_cons_zero, List.getD_cons_succ]; omega) | (intros; simp only [hsx, castL_self, Int.toNat_zero, Int.toNat_one, List.getD_cons_zero, List.getD_cons_succ]; omega) | exact fun h => h | exact fun _ => rfl | (intro h; rw [h]; rfl) | omega | (intros; (try dsimp only [Ty.T, Ty.size]); (try simp only [castL_self, Int.toNat_natCast, Int.toNat_zero, Int.toNat_one, true_and, List.length_append, List.length_set, List.length_drop, List.length_take, List.length_replicate, List.length_cons, List.length_nil, Nat.zero_add, Nat.mul_one]); omega) | decide | (intros; simp_all; done) | (intros; simp_all; omega)) ?_
                refine hK11 _ _ ?_
                clear hK11
                -- region 8
                refine AWPD.keep [0, 1, 2, 3, 10, 11, 12] rfl ?_
                refine AWPD.region tabOK rfl ?_
                repeat refine And.intro (by first | (simp only [hsx, castL_self, Int.toNat_zero, Int.toNat_one, List.getD_cons_zero, List.getD_cons_succ]; omega) | (intros; simp only [hsx, castL_self, Int.toNat_zero, Int.toNat_one, List.getD_cons_zero, List.getD_cons_succ]; omega) | exact fun h => h | exact fun _ => rfl | (intro h; rw [h]; rfl) | omega | (intros; (try dsimp only [Ty.T, Ty.size]); (try simp only [castL_self, Int.toNat_natCast, Int.toNat_zero, Int.toNat_one, true_and, List.length_append, List.length_set, List.length_drop, List.length_take, List.length_replicate, List.length_cons, List.length_nil, Nat.zero_add, Nat.mul_one]); omega) | decide | (intros; simp_all; done) | (intros; simp_all; omega)) ?_
                refine ⟨n0 - 1, i + 1, [], by omega, ⟨by omega, fun _ => pr.at_ (i := 0) (by omega)⟩, ⟨by decide, rfl⟩, trivial, ?_⟩
                repeat' first | exact (congrArg (fun z => sumE p ws e.toNat i + z) (by rw [hsx]; exact hpt.2.1)).trans (sumE_yes hfe) | exact sumE_no hfe | exact have_yes h7 | exact have_no h7 | exact True.intro | exact rfl | exact ⟨rfl, rfl⟩ | refine And.intro ?_ ?_
              · try dsimp only [Ty.T] at h7
                try simp only [castL_self] at h7
                try simp only [Int.toNat_natCast] at h7
                try simp only [Int.toNat_zero] at h7
                have h7 : ¬e.toNat.testBit i = true := by rw [h7]; decide
                refine AWPD.skip ?_
                refine hK11 _ _ ?_
                clear hK11
                -- region 8
                refine AWPD.keep [0, 1, 2, 3, 10, 11, 12] rfl ?_
                refine AWPD.region tabOK rfl ?_
                repeat refine And.intro (by first | (simp only [hsx, castL_self, Int.toNat_zero, Int.toNat_one, List.getD_cons_zero, List.getD_cons_succ]; omega) | (intros; simp only [hsx, castL_self, Int.toNat_zero, Int.toNat_one, List.getD_cons_zero, List.getD_cons_succ]; omega) | exact fun h => h | exact fun _ => rfl | (intro h; rw [h]; rfl) | omega | (intros; (try dsimp only [Ty.T, Ty.size]); (try simp only [castL_self, Int.toNat_natCast, Int.toNat_zero, Int.toNat_one, true_and, List.length_append, List.length_set, List.length_drop, List.length_take, List.length_replicate, List.length_cons, List.length_nil, Nat.zero_add, Nat.mul_one]); omega) | decide | (intros; simp_all; done) | (intros; simp_all; omega)) ?_
                refine ⟨n0 - 1, i + 1, [], by omega, ⟨by omega, fun _ => pr.at_ (i := 0) (by omega)⟩, ⟨by decide, rfl⟩, trivial, ?_⟩
                repeat' first | exact (congrArg (fun z => sumE p ws e.toNat i + z) (by rw [hsx]; exact hpt.2.1)).trans (sumE_yes hfe) | exact sumE_no hfe | exact have_yes h7 | exact have_no h7 | exact True.intro | exact rfl | exact ⟨rfl, rfl⟩ | refine And.intro ?_ ?_
            · try dsimp only [Ty.T] at h6
              try simp only [castL_self] at h6
              try simp only [Int.toNat_natCast] at h6
              try simp only [Int.toNat_zero] at h6
              have hfe : ¬p.getD i 0 = nextP p i := fun hh => by rw [(first_end pb.hp hil).2 hh] at h6; cases h6
              refine AWPD.skip ?_
              refine hK27 _ _ ?_
              clear hK27
              refine AWPD.seq fun K30 hK30 => ?_
              -- region 24
              refine AWPD.keep [0, 1, 2, 3, 10, 11, 12] rfl ?_
              refine AWPD.region tabOK rfl ?_
              refine Exists.intro _ (Exists.intro _ (And.intro (StepD.call (bit_fn _ _ (by omega) (by omega)) rfl rfl rfl) (And.intro rfl (And.intro trivial ?_))))
              refine hK30 _ _ ?_
              clear hK30
              first | refine AWPD.cond rfl (fun h7 => ?_) (fun h7 => ?_)
              · try dsimp only [Ty.T] at h7
                try simp only [castL_self] at h7
                try simp only [Int.toNat_natCast] at h7
                try simp only [Int.toNat_zero] at h7
                -- region 25
                refine AWPD.keep [0, 1, 2, 3, 10, 11, 12] rfl ?_
                refine AWPD.region tabOK rfl ?_
                repeat refine And.intro (by first | (simp only [hsx, castL_self, Int.toNat_zero, Int.toNat_one, List.getD_cons_zero, List.getD_cons_succ]; omega) | (intros; simp only [hsx, castL_self, Int.toNat_zero, Int.toNat_one, List.getD_cons_zero, List.getD_cons_succ]; omega) | exact fun h => h | exact fun _ => rfl | (intro h; rw [h]; rfl) | omega | (intros; (try dsimp only [Ty.T, Ty.size]); (try simp only [castL_self, Int.toNat_natCast, Int.toNat_zero, Int.toNat_one, true_and, List.length_append, List.length_set, List.length_drop, List.length_take, List.length_replicate, List.length_cons, List.length_nil, Nat.zero_add, Nat.mul_one]); omega) | decide | (intros; simp_all; done) | (intros; simp_all; omega)) ?_
                refine hK11 _ _ ?_
                clear hK11
                -- region 8
                refine AWPD.keep [0, 1, 2, 3, 10, 11, 12] rfl ?_
                refine AWPD.region tabOK rfl ?_
                repeat refine And.intro (by first | (simp only [hsx, castL_self, Int.toNat_zero, Int.toNat_one, List.getD_cons_zero, List.getD_cons_succ]; omega) | (intros; simp only [hsx, castL_self, Int.toNat_zero, Int.toNat_one, List.getD_cons_zero, List.getD_cons_succ]; omega) | exact fun h => h | exact fun _ => rfl | (intro h; rw [h]; rfl) | omega | (intros; (try dsimp only [Ty.T, Ty.size]); (try simp only [castL_self, Int.toNat_natCast, Int.toNat_zero, Int.toNat_one, true_and, List.length_append, List.length_set, List.length_drop, List.length_take, List.length_replicate, List.length_cons, List.length_nil, Nat.zero_add, Nat.mul_one]); omega) | decide | (intros; simp_all; done) | (intros; simp_all; omega)) ?_
                refine ⟨n0 - 1, i + 1, [], by omega, ⟨by omega, fun _ => pr.at_ (i := 0) (by omega)⟩, ⟨by decide, rfl⟩, trivial, ?_⟩
                repeat' first | exact (congrArg (fun z => sumE p ws e.toNat i + z) (by rw [hsx]; exact hpt.2.1)).trans (sumE_yes hfe) | exact sumE_no hfe | exact have_yes h7 | exact have_no h7 | exact True.intro | exact rfl | exact ⟨rfl, rfl⟩ | refine And.intro ?_ ?_
              · try dsimp only [Ty.T] at h7
                try simp only [castL_self] at h7
                try simp only [Int.toNat_natCast] at h7
                try simp only [Int.toNat_zero] at h7
                have h7 : ¬e.toNat.testBit i = true := by rw [h7]; decide
                refine AWPD.skip ?_
                refine hK11 _ _ ?_
                clear hK11
                -- region 8
                refine AWPD.keep [0, 1, 2, 3, 10, 11, 12] rfl ?_
                refine AWPD.region tabOK rfl ?_
                repeat refine And.intro (by first | (simp only [hsx, castL_self, Int.toNat_zero, Int.toNat_one, List.getD_cons_zero, List.getD_cons_succ]; omega) | (intros; simp only [hsx, castL_self, Int.toNat_zero, Int.toNat_one, List.getD_cons_zero, List.getD_cons_succ]; omega) | exact fun h => h | exact fun _ => rfl | (intro h; rw [h]; rfl) | omega | (intros; (try dsimp only [Ty.T, Ty.size]); (try simp only [castL_self, Int.toNat_natCast, Int.toNat_zero, Int.toNat_one, true_and, List.length_append, List.length_set, List.length_drop, List.length_take, List.length_replicate, List.length_cons, List.length_nil, Nat.zero_add, Nat.mul_one]); omega) | decide | (intros; simp_all; done) | (intros; simp_all; omega)) ?_
                refine ⟨n0 - 1, i + 1, [], by omega, ⟨by omega, fun _ => pr.at_ (i := 0) (by omega)⟩, ⟨by decide, rfl⟩, trivial, ?_⟩
                repeat' first | exact (congrArg (fun z => sumE p ws e.toNat i + z) (by rw [hsx]; exact hpt.2.1)).trans (sumE_yes hfe) | exact sumE_no hfe | exact have_yes h7 | exact have_no h7 | exact True.intro | exact rfl | exact ⟨rfl, rfl⟩ | refine And.intro ?_ ?_
    · try dsimp only [Ty.T] at h1
      try simp only [castL_self] at h1
      try simp only [Int.toNat_natCast] at h1
      try simp only [Int.toNat_zero] at h1
      try simp only [Bool.cond_true_left, Bool.cond_false_right, Bool.cond_true_right, Bool.cond_false_left, Bool.or_eq_true, Bool.and_eq_true, decide_eq_true_eq, Bool.or_eq_false_iff, Bool.and_eq_false_iff, decide_eq_false_iff_not, Bool.not_eq_true', Bool.not_eq_false', Bool.not_eq_eq_eq_not, Bool.not_true, Bool.not_false] at h1
      have hil : i = p.length := by
        by_cases hi0 : i = 0
        · omega
        · have := (hv0 (by omega)).belP.len; omega
      refine AWPD.exit ?_
      refine hK7 _ _ ?_
      clear hK7
      refine AWPD.seq fun K31 hK31 => ?_
      -- region 26
      refine AWPD.keep [10, 11] rfl ?_
      refine AWPD.region tabOK rfl ?_
      refine hK31 _ _ ?_
      clear hK31
      refine AWPD.ret (And.intro (.inl rfl) ?_)
      -- result 1
      refine RetD.one ?_
      refine fitB rfl ?_
      by_cases hi0 : p.length = 0
      · rw [show i = 0 by omega]; rfl
      · have pr := hv0 (by omega)
        rw [show i = p.length by omega, pr.belP.sum_all]
        simp
/-- Who is sure knows. -/
theorem Bel.all_iff {p ws : List Int} (b : Bel p ws) (e : Nat) {w : Nat} (hw : w < p.length) : (xAt p ws e w).1 = (xAt p ws e w).2 ↔ ∀ i, i < p.length → p.getD i 0 = p.getD w 0 → e.testBit i = true := by
  have c := b.cut e hw
  obtain ⟨g, hg, h1, h2⟩ := c.fac
  have hwt : ∀ i, i < p.length → 1 ≤ ws.getD i 0 := fun i hi => (b.wt.2 i (by rw [b.wl]; exact hi)).1
  constructor
  · intro he i hi hk
    rw [he, ← h2] at h1
    refine Decidable.byContradiction fun hn => ?_
    have hd := sumN_sub (fun j => if p.getD j 0 = p.getD w 0 then ws.getD j 0 else 0) (fun j => if p.getD j 0 = p.getD w 0 ∧ e.testBit j = true then ws.getD j 0 else 0) p.length
    have hge := sumN_ge (f := fun j => (if p.getD j 0 = p.getD w 0 then ws.getD j 0 else 0) - (if p.getD j 0 = p.getD w 0 ∧ e.testBit j = true then ws.getD j 0 else 0)) (n := p.length) (j := i) (fun j hj => by
      have := hwt j hj
      by_cases hpj : p.getD j 0 = p.getD w 0
      · rw [if_pos hpj]; split <;> omega
      · rw [if_neg hpj, if_neg fun hh => hpj hh.1]; omega) hi
    have hwi := hwt i hi
    rw [hd] at hge
    have hge : (if p.getD i 0 = p.getD w 0 then ws.getD i 0 else 0) - (if p.getD i 0 = p.getD w 0 ∧ e.testBit i = true then ws.getD i 0 else 0) ≤ sumN (fun j => if p.getD j 0 = p.getD w 0 then ws.getD j 0 else 0) p.length - sumN (fun j => if p.getD j 0 = p.getD w 0 ∧ e.testBit j = true then ws.getD j 0 else 0) p.length := hge
    rw [if_pos hk, if_neg fun hh => hn hh.2] at hge
    have h1' : sumN (fun j => if p.getD j 0 = p.getD w 0 ∧ e.testBit j = true then ws.getD j 0 else 0) p.length = sumN (fun j => if p.getD j 0 = p.getD w 0 then ws.getD j 0 else 0) p.length := h1
    omega
  · intro h
    have : inB ws (fun j => p.getD j 0 = p.getD w 0 ∧ e.testBit j = true) p.length = inB ws (fun j => p.getD j 0 = p.getD w 0) p.length := sumN_congr fun j hj => by
      by_cases hpj : p.getD j 0 = p.getD w 0
      · rw [if_pos hpj, if_pos ⟨hpj, h j hj hpj⟩]
      · rw [if_neg hpj, if_neg fun hh => hpj hh.1]
    rw [h1, h2] at this
    exact Int.eq_of_mul_eq_mul_right (by omega) this
theorem Bel.none_iff {p ws : List Int} (b : Bel p ws) (e : Nat) {w : Nat} (hw : w < p.length) : (xAt p ws e w).1 = 0 ↔ ∀ i, i < p.length → p.getD i 0 = p.getD w 0 → e.testBit i = false := by
  have c := b.cut e hw
  obtain ⟨g, hg, h1, h2⟩ := c.fac
  have hwt : ∀ i, i < p.length → 1 ≤ ws.getD i 0 := fun i hi => (b.wt.2 i (by rw [b.wl]; exact hi)).1
  constructor
  · intro he i hi hk
    rw [he, Int.zero_mul] at h1
    refine Bool.eq_false_iff.2 fun hn => ?_
    have hge := sumN_ge (f := fun j => if p.getD j 0 = p.getD w 0 ∧ e.testBit j = true then ws.getD j 0 else 0) (n := p.length) (j := i) (fun j hj => by have := hwt j hj; split <;> omega) hi
    have hwi := hwt i hi
    have hge : (if p.getD i 0 = p.getD w 0 ∧ e.testBit i = true then ws.getD i 0 else 0) ≤ sumN (fun j => if p.getD j 0 = p.getD w 0 ∧ e.testBit j = true then ws.getD j 0 else 0) p.length := hge
    rw [if_pos ⟨hk, hn⟩] at hge
    have h1' : sumN (fun j => if p.getD j 0 = p.getD w 0 ∧ e.testBit j = true then ws.getD j 0 else 0) p.length = 0 := h1
    omega
  · intro h
    have : inB ws (fun j => p.getD j 0 = p.getD w 0 ∧ e.testBit j = true) p.length = 0 := sumN_zero fun j hj => by
      rw [if_neg fun hh => by have hh2 : p.getD j 0 = p.getD w 0 ∧ e.testBit j = true := hh; rw [h j hj hh2.1] at hh2; exact absurd hh2.2 (by decide)]
    rw [h1] at this
    rcases Int.mul_eq_zero.1 this with h | h
    · exact h
    · omega
theorem not_mask {p : List Int} {e : Int} (he : 0 ≤ e ∧ e.toNat < 2 ^ p.length) : maskB (((powN (p.length : Int).toNat : Nat) : Int) - 1 - e) (p.length : Int) = true ∧ (((powN (p.length : Int).toNat : Nat) : Int) - 1 - e).toNat = 2 ^ p.length - (e.toNat + 1) := by
  rw [Int.toNat_natCast]
  unfold powN
  have h2 : (((2 ^ p.length : Nat) : Int) - 1 - e).toNat = 2 ^ p.length - (e.toNat + 1) := by omega
  refine ⟨?_, h2⟩
  have h3 : ((2 ^ p.length : Nat) : Int) - 1 - e = ((2 ^ p.length - (e.toNat + 1) : Nat) : Int) := by omega
  rw [h3]
  exact mask_of (by omega)
theorem Pair.sure_knows {p q ws : List Int} {e w : Int} (h : Pair p q ws e w) : ((sureR p q ws e w).1 = (sureR p q ws e w).2 ↔ (knV p e).toNat.testBit w.toNat = true) ∧ ((sureR p q ws e w).1 = 0 ↔ (knV p (((powN (p.length : Int).toNat : Nat) : Int) - 1 - e)).toNat.testBit w.toNat = true) := by
  have hw := h.wi
  have hem := h.em
  have hwl : w.toNat < p.length := by omega
  have hm : maskB e (p.length : Int) = true := h.sev.mask
  obtain ⟨n1, n2⟩ := not_mask (p := p) (e := e) ⟨hem.1, hem.2.2⟩
  rw [h.sure, knV_ok h.hp hm, knV_ok h.hp n1, n2, Int.toNat_natCast, Int.toNat_natCast, knowN_bit h.hp, knowN_bit h.hp, h.belP.all_iff _ hwl, h.belP.none_iff _ hwl]
  refine ⟨⟨fun hh => ⟨hwl, hh⟩, fun hh => hh.2⟩, ⟨fun hh => ⟨hwl, fun i hi hk => ?_⟩, fun hh i hi hk => ?_⟩⟩
  · rw [Nat.testBit_two_pow_sub_succ hem.2.2, decide_eq_true hi, hh i hi hk]; rfl
  · have := hh.2 i hi hk
    rw [Nat.testBit_two_pow_sub_succ hem.2.2, decide_eq_true hi, Bool.true_and] at this
    simpa using this
theorem Pair.sure_common {p q ws : List Int} {e w : Int} (h : Pair p q ws e w) (hk : knownR p q ws e w = true) (hx : (sureR p q ws e w).1 = (sureR p q ws e w).2) : (comV [p, q] e).toNat.testBit w.toNat = true := by
  have hl := h.ql
  have hw := h.wi
  have hwl : w.toNat < p.length := by omega
  unfold knownR at hk
  rw [if_pos (pair_zero h)] at hk
  have svs : Sev [p, q] ((sameM p q ws e.toNat w.toNat p.length : Nat) : Int) := h.sev.other (mask_of (p := p) (sameM_lt _ _ _ _ _ _))
  obtain ⟨_, hb⟩ := (com_bit svs (sameM p q ws e.toNat w.toNat p.length) w.toNat).1 hk
  rw [comV_ok h.sev, Int.toNat_natCast]
  refine (com_bit h.sev e.toNat w.toNat).2 ⟨hwl, fun i hi hli => ?_⟩
  have hi' : i < p.length := hi
  have := hb i hi hli
  rw [sameM_bit, decide_eq_true hi', Bool.true_and, decide_eq_true_eq, sure_at hi', sure_at hwl] at this
  rw [h.sure] at hx
  exact (h.belP.all_iff e.toNat hi').1 (by rw [this.1]; exact hx) i hi' rfl

theorem topSure_fn (p q ws : List Int) (e w : Int) : LiftsG Tryd.prog tabG 4 [.sl .int p, .sl .int q, .sl .int ws, .i e, .i w] (.b true) := by
  refine LiftsG.of_body 151 [.tmp 10] Tryd.func4 rfl Tryd.ntmps4 (by kernel_rfl) rfl rfl fun w0 X0 hG0 => ?_
  refine AWPD.seq fun K1 hK1 => ?_
  -- region 0
  refine AWPD.keep [0, 1, 2, 3, 4] rfl ?_
  refine AWPD.region tabOK rfl ?_
  refine hK1 _ _ ?_
  clear hK1
  refine AWPD.seq fun K2 hK2 => ?_
  -- region 1
  refine AWPD.keep [0, 1, 2, 3, 4] rfl ?_
  refine AWPD.region tabOK rfl ?_
  refine Exists.intro _ (Exists.intro _ (And.intro (StepD.callG tabG_stays rfl hG0 (sureR_fn _ _ _ _ _) rfl rfl rfl) (And.intro rfl (And.intro trivial ?_))))
  repeat refine And.intro (by first | exact fun h => h | exact fun _ => rfl | (intro h; rw [h]; rfl) | omega | (intros; (try dsimp only [Ty.T, Ty.size]); (try simp only [castL_self, Int.toNat_natCast, Int.toNat_zero, Int.toNat_one, true_and, List.length_append, List.length_set, List.length_drop, List.length_take, List.length_replicate, List.length_cons, List.length_nil, Nat.zero_add, Nat.mul_one]); omega) | decide | (intros; simp_all; done) | (intros; simp_all; omega)) ?_
  refine hK2 _ _ ?_
  clear hK2
  refine AWPD.seq fun K3 hK3 => ?_
  refine AWPD.seq fun K4 hK4 => ?_
  -- region 2
  refine AWPD.keep [0, 1, 2, 3, 4, 11, 12] rfl ?_
  refine AWPD.region tabOK rfl ?_
  repeat refine And.intro (by first | exact fun h => h | exact fun _ => rfl | (intro h; rw [h]; rfl) | omega | (intros; (try dsimp only [Ty.T, Ty.size]); (try simp only [castL_self, Int.toNat_natCast, Int.toNat_zero, Int.toNat_one, true_and, List.length_append, List.length_set, List.length_drop, List.length_take, List.length_replicate, List.length_cons, List.length_nil, Nat.zero_add, Nat.mul_one]); omega) | decide | (intros; simp_all; done) | (intros; simp_all; omega)) ?_
  refine hK4 _ _ ?_
  clear hK4
  first | refine AWPD.cond rfl (fun h0 => ?_) (fun h0 => ?_)
  · try dsimp only [Ty.T] at h0
    try simp only [castL_self] at h0
    try simp only [Int.toNat_natCast] at h0
    try simp only [Int.toNat_zero] at h0
    exfalso; rw [fact_pair2, fact_sure2] at h0; revert h0; decide
  · try dsimp only [Ty.T] at h0
    try simp only [castL_self] at h0
    try simp only [Int.toNat_natCast] at h0
    try simp only [Int.toNat_zero] at h0
    refine AWPD.skip ?_
    refine hK3 _ _ ?_
    clear hK3
    refine AWPD.seq fun K5 hK5 => ?_
    -- region 4
    refine AWPD.keep [0, 1, 2, 3, 4] rfl ?_
    refine AWPD.region tabOK rfl ?_
    refine Exists.intro _ (Exists.intro _ (And.intro (StepD.callG tabG_stays rfl hG0 (sureR_fn _ _ _ _ _) rfl rfl rfl) (And.intro rfl (And.intro trivial ?_))))
    repeat refine And.intro (by first | exact fun h => h | exact fun _ => rfl | (intro h; rw [h]; rfl) | omega | (intros; (try dsimp only [Ty.T, Ty.size]); (try simp only [castL_self, Int.toNat_natCast, Int.toNat_zero, Int.toNat_one, true_and, List.length_append, List.length_set, List.length_drop, List.length_take, List.length_replicate, List.length_cons, List.length_nil, Nat.zero_add, Nat.mul_one]); omega) | decide | (intros; simp_all; done) | (intros; simp_all; omega)) ?_
    refine hK5 _ _ ?_
    clear hK5
    refine AWPD.seq fun K6 hK6 => ?_
    -- region 5
    refine AWPD.keep [0, 1, 2, 3, 4, 13, 14] rfl ?_
    refine AWPD.region tabOK rfl ?_
    refine Exists.intro _ (Exists.intro _ (And.intro (StepD.callG tabG_stays rfl hG0 (knownR_fn _ _ _ _ _) rfl rfl rfl) (And.intro rfl (And.intro trivial ?_))))
    refine hK6 _ _ ?_
    clear hK6
    refine AWPD.seq fun K7 hK7 => ?_
    refine AWPD.seq fun K8 hK8 => ?_
    -- region 6
    refine AWPD.keep [0, 1, 3, 4, 13, 14, 15, 16] rfl ?_
    refine AWPD.region tabOK rfl ?_
    repeat refine And.intro (by first | exact fun h => h | exact fun _ => rfl | (intro h; rw [h]; rfl) | omega | (intros; (try dsimp only [Ty.T, Ty.size]); (try simp only [castL_self, Int.toNat_natCast, Int.toNat_zero, Int.toNat_one, true_and, List.length_append, List.length_set, List.length_drop, List.length_take, List.length_replicate, List.length_cons, List.length_nil, Nat.zero_add, Nat.mul_one]); omega) | decide | (intros; simp_all; done) | (intros; simp_all; omega)) ?_
    refine hK8 _ _ ?_
    clear hK8
    first | refine AWPD.cond rfl (fun h1 => ?_) (fun h1 => ?_)
    · try dsimp only [Ty.T] at h1
      try simp only [castL_self] at h1
      try simp only [Int.toNat_natCast] at h1
      try simp only [Int.toNat_zero] at h1
      try simp only [Bool.cond_true_left, Bool.cond_false_right, Bool.cond_true_right, Bool.cond_false_left, Bool.or_eq_true, Bool.and_eq_true, decide_eq_true_eq, Bool.or_eq_false_iff, Bool.and_eq_false_iff, decide_eq_false_iff_not, Bool.not_eq_true', Bool.not_eq_false', Bool.not_eq_eq_eq_not, Bool.not_true, Bool.not_false] at h1
      refine AWPD.seq fun K9 hK9 => ?_
      -- region 7
      refine AWPD.keep [14, 16] rfl ?_
      refine AWPD.region tabOK rfl ?_
      repeat refine And.intro (by first | exact fun h => h | exact fun _ => rfl | (intro h; rw [h]; rfl) | omega | (intros; (try dsimp only [Ty.T, Ty.size]); (try simp only [castL_self, Int.toNat_natCast, Int.toNat_zero, Int.toNat_one, true_and, List.length_append, List.length_set, List.length_drop, List.length_take, List.length_replicate, List.length_cons, List.length_nil, Nat.zero_add, Nat.mul_one]); omega) | decide | (intros; simp_all; done) | (intros; simp_all; omega)) ?_
      refine hK9 _ _ ?_
      clear hK9
      refine AWPD.ret (And.intro (.inl rfl) ?_)
      -- result 0
      refine RetD.one ?_
      refine fitB rfl ?_
      have hz : pairE p q ws e w ≠ 0 := by omega
      simp [hz]
    · try dsimp only [Ty.T] at h1
      try simp only [castL_self] at h1
      try simp only [Int.toNat_natCast] at h1
      try simp only [Int.toNat_zero] at h1
      try simp only [Bool.cond_true_left, Bool.cond_false_right, Bool.cond_true_right, Bool.cond_false_left, Bool.or_eq_true, Bool.and_eq_true, decide_eq_true_eq, Bool.or_eq_false_iff, Bool.and_eq_false_iff, decide_eq_false_iff_not, Bool.not_eq_true', Bool.not_eq_false', Bool.not_eq_eq_eq_not, Bool.not_true, Bool.not_false] at h1
      have hz : pairE p q ws e w = 0 := by omega
      have pr := pair_of hz
      have hwi := pr.wi
      have hem := pr.em
      have h12 := pr.belP.len
      have hm : maskB e (p.length : Int) = true := pr.sev.mask
      have hpw : powN (p.length : Int).toNat ≤ 4096 := by rw [Int.toNat_natCast]; exact pow_small h12
      obtain ⟨n1, n2⟩ := not_mask (p := p) (e := e) ⟨hem.1, hem.2.2⟩
      have k1 := knE_zero pr.hp hm
      have k2 := knE_zero pr.hp n1
      have k3 := sev_zero pr.sev
      have v1 : 0 ≤ knV p e ∧ knV p e ≤ 4095 := by rw [knV_ok pr.hp hm]; have := knowN_small pr.hp e.toNat; omega
      have v2 : 0 ≤ knV p (((powN (p.length : Int).toNat : Nat) : Int) - 1 - e) ∧ knV p (((powN (p.length : Int).toNat : Nat) : Int) - 1 - e) ≤ 4095 := by rw [knV_ok pr.hp n1]; have := knowN_small pr.hp (((powN (p.length : Int).toNat : Nat) : Int) - 1 - e).toNat; omega
      have v3 : 0 ≤ comV [p, q] e ∧ comV [p, q] e ≤ 4095 := by rw [comV_ok pr.sev]; have := subN_le (com_sub pr.sev e.toNat); omega
      have hsk := pr.sure_knows
      have k2' := k2
      have v2' := v2
      have hsk' := hsk.2
      rw [Int.toNat_natCast] at k2' v2' hsk'
      refine AWPD.skip ?_
      refine hK7 _ _ ?_
      clear hK7
      refine AWPD.seq fun K10 hK10 => ?_
      -- region 8
      refine AWPD.keep [0, 1, 3, 4, 13, 15] rfl ?_
      refine AWPD.region tabOK rfl ?_
      refine Exists.intro _ (Exists.intro _ (And.intro (StepD.call (knows_fn _ _) rfl rfl rfl) (And.intro rfl (And.intro trivial ?_))))
      refine hK10 _ _ ?_
      clear hK10
      refine AWPD.seq fun K11 hK11 => ?_
      -- region 9
      refine AWPD.keep [0, 1, 3, 4, 13, 15, 17, 18] rfl ?_
      refine AWPD.region tabOK rfl ?_
      refine Exists.intro _ (Exists.intro _ (And.intro (StepD.call (pow2_fn _ (by omega)) rfl rfl rfl) (And.intro rfl (And.intro trivial ?_))))
      repeat refine And.intro (by first | exact fun h => h | exact fun _ => rfl | (intro h; rw [h]; rfl) | omega | (intros; (try dsimp only [Ty.T, Ty.size]); (try simp only [castL_self, Int.toNat_natCast, Int.toNat_zero, Int.toNat_one, true_and, List.length_append, List.length_set, List.length_drop, List.length_take, List.length_replicate, List.length_cons, List.length_nil, Nat.zero_add, Nat.mul_one]); omega) | decide | (intros; simp_all; done) | (intros; simp_all; omega)) ?_
      refine Exists.intro _ (Exists.intro _ (And.intro (StepD.call (knows_fn _ _) rfl rfl rfl) (And.intro rfl (And.intro trivial ?_))))
      refine hK11 _ _ ?_
      clear hK11
      refine AWPD.seq fun K12 hK12 => ?_
      -- region 10
      refine AWPD.keep [0, 1, 3, 4, 13, 15, 17, 18, 19, 20] rfl ?_
      refine AWPD.region tabOK rfl ?_
      refine Exists.intro _ (Exists.intro _ (And.intro (StepD.call (common_fn _ _) rfl rfl rfl) (And.intro rfl (And.intro trivial ?_))))
      refine hK12 _ _ ?_
      clear hK12
      refine AWPD.seq fun K13 hK13 => ?_
      refine AWPD.seq fun K14 hK14 => ?_
      -- region 11
      refine AWPD.keep [4, 13, 15, 17, 18, 19, 20, 21, 22] rfl ?_
      refine AWPD.region tabOK rfl ?_
      repeat refine And.intro (by first | exact fun h => h | exact fun _ => rfl | (intro h; rw [h]; rfl) | omega | (intros; (try dsimp only [Ty.T, Ty.size]); (try simp only [castL_self, Int.toNat_natCast, Int.toNat_zero, Int.toNat_one, true_and, List.length_append, List.length_set, List.length_drop, List.length_take, List.length_replicate, List.length_cons, List.length_nil, Nat.zero_add, Nat.mul_one]); omega) | decide | (intros; simp_all; done) | (intros; simp_all; omega)) ?_
      refine hK14 _ _ ?_
      clear hK14
      first | refine AWPD.cond rfl (fun h2 => ?_) (fun h2 => ?_)
      · try dsimp only [Ty.T] at h2
        try simp only [castL_self] at h2
        try simp only [Int.toNat_natCast] at h2
        try simp only [Int.toNat_zero] at h2
        try simp only [Bool.cond_true_left, Bool.cond_false_right, Bool.cond_true_right, Bool.cond_false_left, Bool.or_eq_true, Bool.and_eq_true, decide_eq_true_eq, Bool.or_eq_false_iff, Bool.and_eq_false_iff, decide_eq_false_iff_not, Bool.not_eq_true', Bool.not_eq_false', Bool.not_eq_eq_eq_not, Bool.not_true, Bool.not_false] at h2
        exfalso; omega
      · try dsimp only [Ty.T] at h2
        try simp only [castL_self] at h2
        try simp only [Int.toNat_natCast] at h2
        try simp only [Int.toNat_zero] at h2
        try simp only [Bool.cond_true_left, Bool.cond_false_right, Bool.cond_true_right, Bool.cond_false_left, Bool.or_eq_true, Bool.and_eq_true, decide_eq_true_eq, Bool.or_eq_false_iff, Bool.and_eq_false_iff, decide_eq_false_iff_not, Bool.not_eq_true', Bool.not_eq_false', Bool.not_eq_eq_eq_not, Bool.not_true, Bool.not_false] at h2
        refine AWPD.skip ?_
        refine hK13 _ _ ?_
        clear hK13
        refine AWPD.seq fun K15 hK15 => ?_
        refine AWPD.seq fun K16 hK16 => ?_
        -- region 13
        refine AWPD.keep [4, 13, 15, 17, 19, 21] rfl ?_
        refine AWPD.draw tabOK [] rfl (by kernel_rfl) ?_
        repeat refine And.intro (by first | exact fun h => h | exact fun _ => rfl | (intro h; rw [h]; rfl) | omega | (intros; (try dsimp only [Ty.T, Ty.size]); (try simp only [castL_self, Int.toNat_natCast, Int.toNat_zero, Int.toNat_one, true_and, List.length_append, List.length_set, List.length_drop, List.length_take, List.length_replicate, List.length_cons, List.length_nil, Nat.zero_add, Nat.mul_one]); omega) | decide | (intros; simp_all; done) | (intros; simp_all; omega)) ?_
        refine Exists.intro _ (Exists.intro _ (And.intro (StepD.call (bit_fn _ _ (by omega) (by omega)) rfl rfl rfl) (And.intro rfl (And.intro rfl ?_))))
        repeat refine And.intro (by first | exact fun h => h | exact fun _ => rfl | (intro h; rw [h]; rfl) | omega | (intros; (try dsimp only [Ty.T, Ty.size]); (try simp only [castL_self, Int.toNat_natCast, Int.toNat_zero, Int.toNat_one, true_and, List.length_append, List.length_set, List.length_drop, List.length_take, List.length_replicate, List.length_cons, List.length_nil, Nat.zero_add, Nat.mul_one]); omega) | decide | (intros; simp_all; done) | (intros; simp_all; omega)) ?_
        refine Exists.intro _ (Exists.intro _ (And.intro (fun hg => StepD.call (bit_fn _ _ (by omega) (by omega)) rfl rfl rfl) (And.intro (fun hf => rfl) (And.intro rfl (And.intro rfl ?_)))))
        repeat refine And.intro (by first | exact fun h => h | exact fun _ => rfl | (intro h; rw [h]; rfl) | omega | (intros; (try dsimp only [Ty.T, Ty.size]); (try simp only [castL_self, Int.toNat_natCast, Int.toNat_zero, Int.toNat_one, true_and, List.length_append, List.length_set, List.length_drop, List.length_take, List.length_replicate, List.length_cons, List.length_nil, Nat.zero_add, Nat.mul_one]); omega) | decide | (intros; simp_all; done) | (intros; simp_all; omega)) ?_
        refine hK16 _ _ ?_
        clear hK16
        first | refine AWPD.cond rfl (fun h3 => ?_) (fun h3 => ?_)
        · try dsimp only [Ty.T] at h3
          try simp only [castL_self] at h3
          try simp only [Int.toNat_natCast] at h3
          try simp only [Int.toNat_zero] at h3
          try simp only [Bool.cond_true_left, Bool.cond_false_right, Bool.cond_true_right, Bool.cond_false_left, Bool.or_eq_true, Bool.and_eq_true, decide_eq_true_eq, Bool.or_eq_false_iff, Bool.and_eq_false_iff, decide_eq_false_iff_not, Bool.not_eq_true', Bool.not_eq_false', Bool.not_eq_eq_eq_not, Bool.not_true, Bool.not_false] at h3
          exfalso
          rcases h3 with h3 | h3
          · rw [bne_iff_ne] at h3
            refine h3 (Bool.eq_iff_iff.2 ?_)
            simp only [castL_self, Int.toNat_zero, Int.toNat_one, List.getD_cons_zero, List.getD_cons_succ, decide_eq_true_eq]
            exact hsk.1
          · rw [bne_iff_ne] at h3
            refine h3 (Bool.eq_iff_iff.2 ?_)
            simp only [castL_self, Int.toNat_zero, Int.toNat_one, List.getD_cons_zero, List.getD_cons_succ, decide_eq_true_eq]
            exact hsk'
        · try dsimp only [Ty.T] at h3
          try simp only [castL_self] at h3
          try simp only [Int.toNat_natCast] at h3
          try simp only [Int.toNat_zero] at h3
          try simp only [Bool.cond_true_left, Bool.cond_false_right, Bool.cond_true_right, Bool.cond_false_left, Bool.or_eq_true, Bool.and_eq_true, decide_eq_true_eq, Bool.or_eq_false_iff, Bool.and_eq_false_iff, decide_eq_false_iff_not, Bool.not_eq_true', Bool.not_eq_false', Bool.not_eq_eq_eq_not, Bool.not_true, Bool.not_false] at h3
          refine AWPD.skip ?_
          refine hK15 _ _ ?_
          clear hK15
          refine AWPD.seq fun K17 hK17 => ?_
          -- region 15
          refine AWPD.keep [4, 13, 15, 21] rfl ?_
          refine AWPD.region tabOK rfl ?_
          repeat refine And.intro (by first | exact fun h => h | exact fun _ => rfl | (intro h; rw [h]; rfl) | omega | (intros; (try dsimp only [Ty.T, Ty.size]); (try simp only [castL_self, Int.toNat_natCast, Int.toNat_zero, Int.toNat_one, true_and, List.length_append, List.length_set, List.length_drop, List.length_take, List.length_replicate, List.length_cons, List.length_nil, Nat.zero_add, Nat.mul_one]); omega) | decide | (intros; simp_all; done) | (intros; simp_all; omega)) ?_
          refine Exists.intro _ (Exists.intro _ (And.intro (fun hg => StepD.call (bit_fn (comV [p, q] e) w (by omega) (by omega)) rfl rfl rfl) (And.intro (fun hf => rfl) (And.intro rfl (And.intro trivial ?_)))))
          repeat refine And.intro (by first | exact fun h => h | exact fun _ => rfl | (intro h; rw [h]; rfl) | omega | (intros; (try dsimp only [Ty.T, Ty.size]); (try simp only [castL_self, Int.toNat_natCast, Int.toNat_zero, Int.toNat_one, true_and, List.length_append, List.length_set, List.length_drop, List.length_take, List.length_replicate, List.length_cons, List.length_nil, Nat.zero_add, Nat.mul_one]); omega) | decide | (intros; simp_all; done) | (intros; simp_all; omega)) ?_
          refine hK17 _ _ ?_
          clear hK17
          refine AWPD.ret (And.intro (.inl rfl) ?_)
          -- result 1
          refine RetD.one ?_
          refine fitB rfl ?_
          have hco := pr.sure_common
          cases hk : knownR p q ws e w with
          | false => rfl
          | true =>
            by_cases hx : (sureR p q ws e w).1 = (sureR p q ws e w).2
            · rw [hco hk hx]; simp
            · simp only [castL_self, Int.toNat_zero, Int.toNat_one, List.getD_cons_zero, List.getD_cons_succ]; simp [hx]
end Go.Proofs.YtkdihpajgmiolaaDoor
