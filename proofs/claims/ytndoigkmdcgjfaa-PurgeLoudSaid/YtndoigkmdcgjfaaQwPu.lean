/-
  WALKS of the laws of who is quiet. Laid by a program of mine out of the operations, with the loops and results told by hand.
-/
import Derived.Test.YtndoigkmdcgjfaaQwQt
namespace Go.Proofs.Ytndoigkmdcgjfaa
open Go Go.Qw
set_option maxRecDepth 10000


def rngP (N : List (List Int)) (x : Pr) : Prop := 0 ≤ x.1 ∧ x.1 < (N.length : Int) ∧ 0 ≤ x.2 ∧ x.2 < (N.length : Int)
theorem pAdd_mem {x y : Pr} {xs : List Pr} : y ∈ qAdd .two x xs ↔ y ∈ xs ∨ y = x := by
  rcases pAdd_or x xs with ⟨h, hm, _⟩ | ⟨h, hm, _⟩
  · rw [h]
    exact ⟨.inl, fun h => h.elim id (fun e => e ▸ hm)⟩
  · rw [h, List.mem_append, List.mem_singleton]
theorem pAdd_nodup {x : Pr} {xs : List Pr} (hn : xs.Nodup) : (qAdd .two x xs).Nodup := by
  rcases pAdd_or x xs with ⟨h, hm, _⟩ | ⟨h, hm, _⟩
  · rw [h]; exact hn
  · rw [h, List.nodup_append]
    exact ⟨hn, by simp, fun a ha b hb e => hm (by rw [List.mem_singleton] at hb; rw [← hb, ← e]; exact ha)⟩
theorem getP_in {N : List (List Int)} (hN : 0 < N.length) {xs : List Pr} (h : ∀ x ∈ xs, rngP N x) (k : Nat) : rngP N (xs.getD k (0, 0)) := by
  by_cases hk : k < xs.length
  · exact h _ (getD_mem hk _)
  · simp [List.getD, hk, rngP]; omega
theorem quI_mem {N : List (List Int)} {A f : List Int} {part : Int} {q0 : List Pr} {at_ : Nat} {s : QS} {y : Pr} : ∀ {k}, y ∈ (quI N A f part q0 at_ s k).1 ↔ y ∈ s.1 ∨ ∃ a, a < k ∧ y = nxtP N A f part (q0.getD at_ (0, 0)) a
  | 0 => by simp [quI]
  | k + 1 => by
    rw [quI]
    refine (pAdd_mem (x := nxtP N A f part (q0.getD at_ (0, 0)) k) (xs := (quI N A f part q0 at_ s k).1)).trans ?_
    rw [quI_mem]
    constructor
    · rintro ((h | ⟨j, h1, h2⟩) | h)
      · exact .inl h
      · exact .inr ⟨j, by omega, h2⟩
      · exact .inr ⟨k, by omega, h⟩
    · rintro (h | ⟨j, h1, h2⟩)
      · exact .inl (.inl h)
      · rcases Nat.lt_or_ge j k with h3 | h3
        · exact .inl (.inr ⟨j, h3, h2⟩)
        · exact .inr (by rw [h2, show j = k by omega])
theorem quI_nodup {N : List (List Int)} {A f : List Int} {part : Int} {q0 : List Pr} {at_ : Nat} {s : QS} (h : s.1.Nodup) : ∀ k, (quI N A f part q0 at_ s k).1.Nodup
  | 0 => h
  | k + 1 => pAdd_nodup (quI_nodup h k)
theorem quO_nodup (N : List (List Int)) (A f : List Int) (part : Int) : ∀ k, (quO N A f part k).1.Nodup
  | 0 => by show ([((0 : Int), (0 : Int))] : List Pr).Nodup; simp
  | k + 1 => quI_nodup (quO_nodup N A f part k) A.length
theorem GoodC.quO_rng {P : Int} {A : List Int} {N S : List (List Int)} {f : List Int} {part : Int} (g : GoodC P A N S f part) : ∀ k, ∀ x ∈ (quO N A f part k).1, rngP N x
  | 0, x, hx => by
    have := g.m.some
    have h := List.mem_singleton.1 (show x ∈ [(((0 : Int), (0 : Int)) : Pr)] from hx)
    subst h; simp [rngP]; omega
  | k + 1, x, hx => by
    have hs := g.m.some
    rcases quI_mem.1 hx with h | ⟨a, ha, rfl⟩
    · exact g.quO_rng k x h
    · exact g.nxt (getP_in hs (g.quO_rng k) k) ha
theorem GoodC.quO_few {P : Int} {A : List Int} {N S : List (List Int)} {f : List Int} {part : Int} (g : GoodC P A N S f part) (k : Nat) : (quO N A f part k).1.length ≤ 256 := few_pairs g.m.few (quO_nodup N A f part k) (g.quO_rng k)
theorem quO_mono (N : List (List Int)) (A f : List Int) (part : Int) {i : Nat} : ∀ {j}, i ≤ j → (quO N A f part i).1 <+: (quO N A f part j).1
  | 0, h => by rw [show i = 0 by omega]; exact List.prefix_rfl
  | j + 1, h => by
    rcases Nat.lt_or_ge i (j + 1) with h1 | h1
    · exact (quO_mono N A f part (by omega)).trans (quO_pre N A f part j)
    · rw [show i = j + 1 by omega]; exact List.prefix_rfl
theorem getP_pre {xs ys : List Pr} (h : xs <+: ys) {k : Nat} (hk : k < xs.length) : ys.getD k (0, 0) = xs.getD k (0, 0) := by
  obtain ⟨t, rfl⟩ := h
  simp only [List.getD, List.getElem?_append_left hk]
theorem stopB_spec (f : Nat → Nat) (b : Nat → Bool) (hb : ∀ k, f k ≤ 257) : ∀ n k, n + k = 257 → f (stopB f b n k) ≤ stopB f b n k ∨ (stopB f b n k < f (stopB f b n k) ∧ b (stopB f b n k) = true)
  | 0, k, h => by
    have := hb k
    rw [stopB]
    exact .inl (by omega)
  | n + 1, k, h => by
    rw [stopB]
    split
    · rename_i h1
      split
      · rename_i h2; exact .inr ⟨h1, h2⟩
      · exact stopB_spec f b hb n (k + 1) (by omega)
    · exact .inl (by omega)
theorem stopB_long (f : Nat → Nat) (b : Nat → Bool) : ∀ n k j, k ≤ j → j < stopB f b n k → j < f j ∧ b j = false
  | 0, k, j, hj, hlt => by rw [stopB] at hlt; omega
  | n + 1, k, j, hj, hlt => by
    rw [stopB] at hlt
    split at hlt
    · rename_i h1
      split at hlt
      · omega
      · rename_i h2
        rcases Nat.lt_or_ge k j with h3 | h3
        · exact stopB_long f b n (k + 1) j (by omega) hlt
        · rw [show j = k by omega]; exact ⟨h1, by simpa using h2⟩
    · omega
theorem GoodC.qu_long {P : Int} {A : List Int} {N S : List (List Int)} {f : List Int} {part : Int} (_g : GoodC P A N S f part) {j : Nat} (hj : j < quEnd N A f part S) : j < (quO N A f part j).1.length ∧ quBad N A f part S j = false :=
  stopB_long _ _ 257 0 j (Nat.zero_le _) hj
theorem GoodC.qu_loud {P : Int} {A : List Int} {N S : List (List Int)} {f : List Int} {part : Int} (g : GoodC P A N S f part) (h : quietB N A f part S = false) : quEnd N A f part S < (quO N A f part (quEnd N A f part S)).1.length ∧ quBad N A f part S (quEnd N A f part S) = true := by
  have h1 := of_decide_eq_false h
  rcases stopB_spec (fun k => (quO N A f part k).1.length) (quBad N A f part S) (fun k => by have := g.quO_few k; show (quO N A f part k).1.length ≤ 257; omega) 257 0 rfl with h2 | h2
  · exact absurd h2 h1
  · exact h2
/-- Where it is quiet: the last queue is closed under all acts, and none of its pairs looks different. -/
theorem GoodC.qu_next {P : Int} {A : List Int} {N S : List (List Int)} {f : List Int} {part : Int} (g : GoodC P A N S f part) (h : quietB N A f part S = true) {x : Pr} (hx : x ∈ (quO N A f part (quEnd N A f part S)).1) :
    badP S part x = false ∧ ∀ a, a < A.length → nxtP N A f part x a ∈ (quO N A f part (quEnd N A f part S)).1 := by
  have hlen := of_decide_eq_true h
  obtain ⟨j, hj, e⟩ := List.mem_iff_getElem.1 hx
  have e2 : (quO N A f part (quEnd N A f part S)).1.getD j (0, 0) = x := by simp [List.getD, hj, e]
  obtain ⟨l1, l2⟩ := g.qu_long (show j < quEnd N A f part S by omega)
  have e3 := getP_pre (quO_mono N A f part (show j ≤ quEnd N A f part S by omega)) l1
  rw [e2] at e3
  refine ⟨by rw [e3]; exact l2, fun a ha => (quO_mono N A f part (show j + 1 ≤ quEnd N A f part S by omega)).subset ?_⟩
  exact quI_mem.2 (.inr ⟨a, ha, by rw [e3]⟩)
theorem run_snoc (N : List (List Int)) (s : Int) (v : List Int) (a : Int) : runN N s (v ++ [a]) (v.length + 1) = (N.getD (runN N s v v.length).toNat []).getD a.toNat 0 := run_behind N s v [a] 1 (Nat.le_refl _)
theorem GoodC.qu_run {P : Int} {A : List Int} {N S : List (List Int)} {f : List Int} {part : Int} (g : GoodC P A N S f part) (h : quietB N A f part S = true) {w : List Int} (hw : inAll w ((A.length : Int) - 1)) : ∀ i, i ≤ w.length →
    (runN N 0 w i, runN N 0 (purgeL A f part (w.take i)) (purgeL A f part (w.take i)).length) ∈ (quO N A f part (quEnd N A f part S)).1
  | 0, _ => (quO_mono N A f part (Nat.zero_le _)).subset (show (((0 : Int), (0 : Int)) : Pr) ∈ [(((0 : Int), (0 : Int)) : Pr)] from List.mem_singleton.2 rfl)
  | i + 1, hi => by
    have ih := (g.qu_next h (g.qu_run h hw i (by omega))).2 (w.getD i 0).toNat (by have := hw i (by omega); omega)
    have ha := hw i (by omega)
    have ea : (((w.getD i 0).toNat : Nat) : Int) = w.getD i 0 := by omega
    unfold nxtP at ih
    rw [ea] at ih
    by_cases hc : actOn A f part (w.getD i 0) = true
    · rw [if_pos hc] at ih
      rw [← purge_yes (by omega) hc, List.length_append]
      have := run_snoc N 0 (purgeL A f part (w.take i)) (w.getD i 0)
      rw [show (purgeL A f part (w.take i)).length + [w.getD i 0].length = (purgeL A f part (w.take i)).length + 1 from rfl, this]
      exact ih
    · rw [if_neg hc] at ih
      rw [← purge_no (by omega) hc]
      exact ih
theorem GoodC.qu_quiet {P : Int} {A : List Int} {N S : List (List Int)} {f : List Int} {part : Int} (g : GoodC P A N S f part) (h : quietB N A f part S = true) {w : List Int} (hw : inAll w ((A.length : Int) - 1)) :
    (S.getD (runN N 0 w w.length).toNat []).getD part.toNat 0 = (S.getD (runN N 0 (purgeL A f part w) (purgeL A f part w).length).toNat []).getD part.toNat 0 := by
  have := (g.qu_next h (g.qu_run h hw w.length (Nat.le_refl _))).1
  rw [List.take_of_length_le (Nat.le_refl _)] at this
  exact Decidable.not_not.1 (of_decide_eq_false this)
/-- Where all may act none is told apart. -/
theorem GoodC.qu_all {P : Int} {A : List Int} {N S : List (List Int)} {f : List Int} {part : Int} (g : GoodC P A N S f part) (h : ∀ a, a < A.length → actOn A f part (a : Int) = true) : quietB N A f part S = true := by
  have same : ∀ k, ∀ x ∈ (quO N A f part k).1, x.1 = x.2 := by
    intro k
    induction k with
    | zero =>
      intro x hx
      have h := List.mem_singleton.1 (show x ∈ [(((0 : Int), (0 : Int)) : Pr)] from hx)
      subst h; rfl
    | succ k ih =>
      intro x hx
      rcases quI_mem.1 hx with h1 | ⟨a, ha, rfl⟩
      · exact ih x h1
      · have : ((quO N A f part k).1.getD k (0, 0)).1 = ((quO N A f part k).1.getD k (0, 0)).2 := by
          by_cases hk : k < (quO N A f part k).1.length
          · exact ih _ (getD_mem hk _)
          · simp [List.getD, hk]
        rw [nxt_yes (h a ha), this]
  cases hq : quietB N A f part S with
  | true => rfl
  | false =>
    obtain ⟨h1, h2⟩ := g.qu_loud hq
    have h3 := of_decide_eq_true h2
    rw [same _ _ (getD_mem h1 _)] at h3
    exact absurd rfl h3
theorem ones_bit (n i : Nat) : (2 ^ n - 1).testBit i = decide (i < n) := Nat.testBit_two_pow_sub_one n i
theorem full_chk {P : Int} {A : List Int} {N S : List (List Int)} {f : List Int} {part : Int} (h : chkE P A N S f part = 0) : chkE P A N S (List.replicate P.toNat (((2 ^ P.toNat : Nat) : Int) - 1)) part = 0 ∧ ∀ a, a < A.length → actOn A (List.replicate P.toNat (((2 ^ P.toNat : Nat) : Int) - 1)) part (a : Int) = true := by
  have g := chk_good h
  have hP := g.m.parts
  have hp := g.part
  have hpow := Nat.two_pow_pos P.toNat
  have get : ∀ i, i < P.toNat → (List.replicate P.toNat (((2 ^ P.toNat : Nat) : Int) - 1)).getD i 0 = ((2 ^ P.toNat : Nat) : Int) - 1 := fun i hi => by simp [List.getD, hi]
  have tn : (((2 ^ P.toNat : Nat) : Int) - 1).toNat = 2 ^ P.toNat - 1 := by omega
  constructor
  · unfold chkE
    have hpol : polE P A N S (List.replicate P.toNat (((2 ^ P.toNat : Nat) : Int) - 1)) = 0 := by
      rw [polE_st g.he (by rw [List.length_replicate]; omega)]
      refine fE_zero fun i hi => ?_
      rw [List.length_replicate] at hi
      unfold polSt
      rw [get i hi, tn, ones_bit, if_neg (fun hn => hn (by unfold maskB; exact decide_eq_true (by omega))), if_pos (decide_eq_true hi)]
    rw [if_neg (fun hn => hn hpol), if_pos hp]
  · intro a ha
    have h2 := g.m.acts a ha
    unfold actOn
    rw [Int.toNat_natCast, get _ (by omega), tn, ones_bit]
    exact decide_eq_true (by omega)
theorem purge_mem {A f : List Int} {part : Int} {w : List Int} {x : Int} (h : x ∈ purgeL A f part w) : x ∈ w := (List.mem_filter.1 h).1

theorem purgeFact_fn  : LiftsD Try.prog 15 [] (.b true) := by
  refine LiftsD.of_body 39 [.tmp 0] Try.func15 rfl Try.ntmps15 (by kernel_rfl) rfl rfl fun w0 X0 => ?_
  refine AWPD.seq fun K1 hK1 => ?_
  -- region 0
  refine AWPD.keep [] rfl ?_
  refine AWPD.region tabOK rfl ?_
  refine hK1 _ _ ?_
  clear hK1
  refine AWPD.seq fun K2 hK2 => ?_
  -- region 1
  refine AWPD.keep [] rfl ?_
  refine AWPD.region tabOK rfl ?_
  refine Exists.intro _ (Exists.intro _ (And.intro (StepD.call (cell_fn) rfl rfl rfl) (And.intro rfl (And.intro trivial ?_))))
  refine Exists.intro _ (Exists.intro _ (And.intro (StepD.call (quiet_fn _ _ _ _ _ _) rfl rfl rfl) (And.intro rfl (And.intro trivial ?_))))
  refine hK2 _ _ ?_
  clear hK2
  refine AWPD.seq fun K3 hK3 => ?_
  -- region 2
  refine AWPD.keep [1, 2, 3] rfl ?_
  refine AWPD.region tabOK rfl ?_
  refine Exists.intro _ (Exists.intro _ (And.intro (StepD.call (cell_fn) rfl rfl rfl) (And.intro rfl (And.intro trivial ?_))))
  refine Exists.intro _ (Exists.intro _ (And.intro (StepD.call (quiet_fn _ _ _ _ _ _) rfl rfl rfl) (And.intro rfl (And.intro trivial ?_))))
  refine hK3 _ _ ?_
  clear hK3
  refine AWPD.seq fun K4 hK4 => ?_
  -- region 3
  refine AWPD.keep [1, 2, 3, 4, 6] rfl ?_
  refine AWPD.region tabOK rfl ?_
  repeat refine And.intro (by first | exact fun h => h | exact fun _ => rfl | omega | ((try dsimp only [Ty.T]); (try simp only [castL_self]); (try simp only [Int.toNat_natCast]); (try simp only [Int.toNat_zero]); (try simp only [true_and]); omega) | (intros; (try dsimp only [Ty.T]); (try simp only [castL_self]); (try simp only [Int.toNat_natCast]); (try simp only [Int.toNat_zero]); (try simp only [true_and]); omega) | ((try dsimp only [Ty.T, Ty.size]); (try simp only [castL_self, Int.toNat_natCast, Int.toNat_zero, true_and, List.length_append, List.length_set, List.length_cons, List.length_nil, Nat.zero_add, Nat.mul_one]); omega) | ((try dsimp only [Ty.T, Ty.size]); (try simp only [castL_self, Int.toNat_natCast, Int.toNat_zero, Int.toNat_one, true_and, List.length_append, List.length_set, List.length_drop, List.length_take, List.length_replicate, List.length_cons, List.length_nil, Nat.zero_add, Nat.mul_one]); omega) | decide | (intros; simp_all; done) | (intros; simp_all; omega)) ?_
  refine Exists.intro _ (And.intro (fun hg => StepD.call (ints_fn _ _ (by decide +kernel)) rfl rfl rfl) (And.intro rfl ?_))
  repeat refine And.intro (by first | exact fun h => h | exact fun _ => rfl | omega | ((try dsimp only [Ty.T]); (try simp only [castL_self]); (try simp only [Int.toNat_natCast]); (try simp only [Int.toNat_zero]); (try simp only [true_and]); omega) | (intros; (try dsimp only [Ty.T]); (try simp only [castL_self]); (try simp only [Int.toNat_natCast]); (try simp only [Int.toNat_zero]); (try simp only [true_and]); omega) | ((try dsimp only [Ty.T, Ty.size]); (try simp only [castL_self, Int.toNat_natCast, Int.toNat_zero, true_and, List.length_append, List.length_set, List.length_cons, List.length_nil, Nat.zero_add, Nat.mul_one]); omega) | ((try dsimp only [Ty.T, Ty.size]); (try simp only [castL_self, Int.toNat_natCast, Int.toNat_zero, Int.toNat_one, true_and, List.length_append, List.length_set, List.length_drop, List.length_take, List.length_replicate, List.length_cons, List.length_nil, Nat.zero_add, Nat.mul_one]); omega) | decide | (intros; simp_all; done) | (intros; simp_all; omega)) ?_
  refine hK4 _ _ ?_
  clear hK4
  refine AWPD.ret (And.intro (.inl rfl) ?_)
  -- result 0
  refine RetD.one ?_
  exact fitB rfl (by decide +kernel)
theorem purgeMore_fn (P : Int) (A : List Int) (N S : List (List Int)) (f : List Int) (part : Int) : LiftsD Try.prog 4 [.agg [.i P, .sl .int A, .sl (.sl .int) N, .sl (.sl .int) S], .sl .int f, .i part] (.b true) := by
  refine LiftsD.of_body 60 [.tmp 6] Try.func4 rfl Try.ntmps4 (by kernel_rfl) rfl rfl fun w0 X0 => ?_
  refine AWPD.seq fun K1 hK1 => ?_
  -- region 0
  refine AWPD.keep [0, 1, 2] rfl ?_
  refine AWPD.region tabOK rfl ?_
  refine hK1 _ _ ?_
  clear hK1
  refine AWPD.seq fun K2 hK2 => ?_
  -- region 1
  refine AWPD.keep [1, 2, 3] rfl ?_
  refine AWPD.region tabOK rfl ?_
  refine Exists.intro _ (Exists.intro _ (And.intro (StepD.call (purgeFact_fn) rfl rfl rfl) (And.intro rfl (And.intro trivial ?_))))
  refine hK2 _ _ ?_
  clear hK2
  refine AWPD.seq fun K3 hK3 => ?_
  refine AWPD.seq fun K4 hK4 => ?_
  -- region 2
  refine AWPD.keep [1, 2, 3, 7] rfl ?_
  refine AWPD.region tabOK rfl ?_
  refine hK4 _ _ ?_
  clear hK4
  first | refine AWPD.condP rfl (fun h0 => ?_) (fun h0 => ?_) | refine AWPD.condN rfl (fun h0 => ?_) (fun h0 => ?_) | refine AWPD.condAP rfl (fun h0 => ?_) (fun h0 => ?_) | refine AWPD.condOP rfl (fun h0 => ?_) (fun h0 => ?_) | refine AWPD.condONN rfl (fun h0 => ?_) (fun h0 => ?_) | refine AWPD.condOPN rfl (fun h0 => ?_) (fun h0 => ?_) | refine AWPD.condA rfl (fun h0 => ?_) (fun h0 => ?_) | refine AWPD.condO rfl (fun h0 => ?_) (fun h0 => ?_) | refine AWPD.cond rfl (fun h0 => ?_) (fun h0 => ?_)
  · try dsimp only [Ty.T] at h0
    try simp only [castL_self] at h0
    try simp only [Int.toNat_natCast] at h0
    try simp only [Int.toNat_zero] at h0
    exact absurd h0 (by decide)
  · try dsimp only [Ty.T] at h0
    try simp only [castL_self] at h0
    try simp only [Int.toNat_natCast] at h0
    try simp only [Int.toNat_zero] at h0
    refine AWPD.skip ?_
    refine hK3 _ _ ?_
    clear hK3
    refine AWPD.seq fun K5 hK5 => ?_
    -- region 4
    refine AWPD.keep [1, 2, 3] rfl ?_
    refine AWPD.region tabOK rfl ?_
    repeat refine And.intro (by first | exact fun h => h | exact fun _ => rfl | omega | ((try dsimp only [Ty.T]); (try simp only [castL_self]); (try simp only [Int.toNat_natCast]); (try simp only [Int.toNat_zero]); (try simp only [true_and]); omega) | (intros; (try dsimp only [Ty.T]); (try simp only [castL_self]); (try simp only [Int.toNat_natCast]); (try simp only [Int.toNat_zero]); (try simp only [true_and]); omega) | ((try dsimp only [Ty.T, Ty.size]); (try simp only [castL_self, Int.toNat_natCast, Int.toNat_zero, true_and, List.length_append, List.length_set, List.length_cons, List.length_nil, Nat.zero_add, Nat.mul_one]); omega) | ((try dsimp only [Ty.T, Ty.size]); (try simp only [castL_self, Int.toNat_natCast, Int.toNat_zero, Int.toNat_one, true_and, List.length_append, List.length_set, List.length_drop, List.length_take, List.length_replicate, List.length_cons, List.length_nil, Nat.zero_add, Nat.mul_one]); omega) | decide | (intros; simp_all; done) | (intros; simp_all; omega)) ?_
    refine Exists.intro _ (Exists.intro _ (And.intro (StepD.call (quiet_fn _ _ _ _ _ _) rfl rfl rfl) (And.intro rfl (And.intro trivial ?_))))
    refine hK5 _ _ ?_
    clear hK5
    refine AWPD.seq fun K6 hK6 => ?_
    refine AWPD.seq fun K7 hK7 => ?_
    -- region 5
    refine AWPD.keep [2, 3, 10] rfl ?_
    refine AWPD.region tabOK rfl ?_
    refine hK7 _ _ ?_
    clear hK7
    first | refine AWPD.condP rfl (fun h1 => ?_) (fun h1 => ?_) | refine AWPD.condN rfl (fun h1 => ?_) (fun h1 => ?_) | refine AWPD.condAP rfl (fun h1 => ?_) (fun h1 => ?_) | refine AWPD.condOP rfl (fun h1 => ?_) (fun h1 => ?_) | refine AWPD.condONN rfl (fun h1 => ?_) (fun h1 => ?_) | refine AWPD.condOPN rfl (fun h1 => ?_) (fun h1 => ?_) | refine AWPD.condA rfl (fun h1 => ?_) (fun h1 => ?_) | refine AWPD.condO rfl (fun h1 => ?_) (fun h1 => ?_) | refine AWPD.cond rfl (fun h1 => ?_) (fun h1 => ?_)
    · try dsimp only [Ty.T] at h1
      try simp only [castL_self] at h1
      try simp only [Int.toNat_natCast] at h1
      try simp only [Int.toNat_zero] at h1
      refine AWPD.seq fun K8 hK8 => ?_
      -- region 6
      refine AWPD.keep [] rfl ?_
      refine AWPD.region tabOK rfl ?_
      refine hK8 _ _ ?_
      clear hK8
      refine AWPD.ret (And.intro (.inl rfl) ?_)
      -- result 0
      refine RetD.one ?_
      exact fitB rfl rfl
    · try dsimp only [Ty.T] at h1
      try simp only [castL_self] at h1
      try simp only [Int.toNat_natCast] at h1
      try simp only [Int.toNat_zero] at h1
      have he : chkE P A N S f part = 0 := by simpa using h1
      have g := chk_good he
      have gP := g.m.parts
      have hpl := powN_le (k := P.toNat) (by omega)
      have hpm := powN_le (k := (if 5 < P then 5 else P : Int).toNat) (by omega)
      obtain ⟨hfc, hfa⟩ := full_chk he
      refine AWPD.skip ?_
      refine hK6 _ _ ?_
      clear hK6
      refine AWPD.seq fun K9 hK9 => ?_
      -- region 7
      refine AWPD.keep [2, 3] rfl ?_
      refine AWPD.region tabOK rfl ?_
      refine hK9 _ _ ?_
      clear hK9
      refine AWPD.seq fun K10 hK10 => ?_
      refine AWPD.seq fun K11 hK11 => ?_
      -- region 8
      refine AWPD.keep [2, 3, 11] rfl ?_
      refine AWPD.region tabOK rfl ?_
      refine hK11 _ _ ?_
      clear hK11
      refine AWPD.block ?_
      -- LOOP 0 live [2, 3, 11, 12] changed [11, 12]
      refine AWPD.nilRow 11 3 .int rfl (by decide) ?_
      refine AWPD.loopK (σ := Nat) [2, 3] (fun i base => (12, .i (i : Int)) :: (11, .ob 0) :: base) (fun i => [.row 3 .int (List.replicate i (((powN P.toNat : Nat) : Int) - 1))]) (fun n i => n + i = 5 + 1 ∧ (i : Int) ≤ P) 6 0 [0] rfl rfl (⟨rfl, by omega⟩) (by decide) ⟨⟨rfl, rfl, rfl⟩, trivial⟩ (by repeat' first | exact True.intro | exact rfl | exact ⟨rfl, rfl⟩ | refine And.intro ?_ ?_) fun n0 i hI0 => ?_
      obtain ⟨hn0, hp0⟩ := hI0
      refine AWPD.seq fun K12 hK12 => ?_
      refine AWPD.seq fun K13 hK13 => ?_
      -- region 9
      refine AWPD.keep [2, 3, 11, 12] rfl ?_
      refine AWPD.region tabOK rfl ?_
      repeat refine And.intro (by first | exact fun h => h | exact fun _ => rfl | omega | ((try dsimp only [Ty.T]); (try simp only [castL_self]); (try simp only [Int.toNat_natCast]); (try simp only [Int.toNat_zero]); (try simp only [true_and]); omega) | (intros; (try dsimp only [Ty.T]); (try simp only [castL_self]); (try simp only [Int.toNat_natCast]); (try simp only [Int.toNat_zero]); (try simp only [true_and]); omega) | ((try dsimp only [Ty.T, Ty.size]); (try simp only [castL_self, Int.toNat_natCast, Int.toNat_zero, true_and, List.length_append, List.length_set, List.length_cons, List.length_nil, Nat.zero_add, Nat.mul_one]); omega) | ((try dsimp only [Ty.T, Ty.size]); (try simp only [castL_self, Int.toNat_natCast, Int.toNat_zero, Int.toNat_one, true_and, List.length_append, List.length_set, List.length_drop, List.length_take, List.length_replicate, List.length_cons, List.length_nil, Nat.zero_add, Nat.mul_one]); omega) | decide | (intros; simp_all; done) | (intros; simp_all; omega)) ?_
      refine hK13 _ _ ?_
      clear hK13
      first | refine AWPD.condP rfl (fun h2 => ?_) (fun h2 => ?_) | refine AWPD.condN rfl (fun h2 => ?_) (fun h2 => ?_) | refine AWPD.condAP rfl (fun h2 => ?_) (fun h2 => ?_) | refine AWPD.condOP rfl (fun h2 => ?_) (fun h2 => ?_) | refine AWPD.condONN rfl (fun h2 => ?_) (fun h2 => ?_) | refine AWPD.condOPN rfl (fun h2 => ?_) (fun h2 => ?_) | refine AWPD.condA rfl (fun h2 => ?_) (fun h2 => ?_) | refine AWPD.condO rfl (fun h2 => ?_) (fun h2 => ?_) | refine AWPD.cond rfl (fun h2 => ?_) (fun h2 => ?_)
      · try dsimp only [Ty.T] at h2
        try simp only [castL_self] at h2
        try simp only [Int.toNat_natCast] at h2
        try simp only [Int.toNat_zero] at h2
        refine AWPD.skip ?_
        refine hK12 _ _ ?_
        clear hK12
        refine AWPD.seq fun K14 hK14 => ?_
        refine AWPD.block ?_
        -- region 11
        refine AWPD.keep [2, 3, 11, 12] rfl ?_
        refine AWPD.region tabOK rfl ?_
        repeat refine And.intro (by first | exact fun h => h | exact fun _ => rfl | omega | ((try dsimp only [Ty.T]); (try simp only [castL_self]); (try simp only [Int.toNat_natCast]); (try simp only [Int.toNat_zero]); (try simp only [true_and]); omega) | (intros; (try dsimp only [Ty.T]); (try simp only [castL_self]); (try simp only [Int.toNat_natCast]); (try simp only [Int.toNat_zero]); (try simp only [true_and]); omega) | ((try dsimp only [Ty.T, Ty.size]); (try simp only [castL_self, Int.toNat_natCast, Int.toNat_zero, true_and, List.length_append, List.length_set, List.length_cons, List.length_nil, Nat.zero_add, Nat.mul_one]); omega) | ((try dsimp only [Ty.T, Ty.size]); (try simp only [castL_self, Int.toNat_natCast, Int.toNat_zero, Int.toNat_one, true_and, List.length_append, List.length_set, List.length_drop, List.length_take, List.length_replicate, List.length_cons, List.length_nil, Nat.zero_add, Nat.mul_one]); omega) | decide | (intros; simp_all; done) | (intros; simp_all; omega)) ?_
        refine Exists.intro _ (Exists.intro _ (And.intro (StepD.call (pow2_fn (if 5 < P then 5 else P) (by omega)) rfl rfl rfl) (And.intro rfl (And.intro trivial ?_))))
        repeat refine And.intro (by first | exact fun h => h | exact fun _ => rfl | omega | ((try dsimp only [Ty.T]); (try simp only [castL_self]); (try simp only [Int.toNat_natCast]); (try simp only [Int.toNat_zero]); (try simp only [true_and]); omega) | (intros; (try dsimp only [Ty.T]); (try simp only [castL_self]); (try simp only [Int.toNat_natCast]); (try simp only [Int.toNat_zero]); (try simp only [true_and]); omega) | ((try dsimp only [Ty.T, Ty.size]); (try simp only [castL_self, Int.toNat_natCast, Int.toNat_zero, true_and, List.length_append, List.length_set, List.length_cons, List.length_nil, Nat.zero_add, Nat.mul_one]); omega) | ((try dsimp only [Ty.T, Ty.size]); (try simp only [castL_self, Int.toNat_natCast, Int.toNat_zero, Int.toNat_one, true_and, List.length_append, List.length_set, List.length_drop, List.length_take, List.length_replicate, List.length_cons, List.length_nil, Nat.zero_add, Nat.mul_one]); omega) | decide | (intros; simp_all; done) | (intros; simp_all; omega)) ?_
        refine hK14 _ _ ?_
        clear hK14
        -- region 10
        refine AWPD.keep [2, 3, 11, 12] rfl ?_
        refine AWPD.region tabOK rfl ?_
        repeat refine And.intro (by first | exact fun h => h | exact fun _ => rfl | omega | ((try dsimp only [Ty.T]); (try simp only [castL_self]); (try simp only [Int.toNat_natCast]); (try simp only [Int.toNat_zero]); (try simp only [true_and]); omega) | (intros; (try dsimp only [Ty.T]); (try simp only [castL_self]); (try simp only [Int.toNat_natCast]); (try simp only [Int.toNat_zero]); (try simp only [true_and]); omega) | ((try dsimp only [Ty.T, Ty.size]); (try simp only [castL_self, Int.toNat_natCast, Int.toNat_zero, true_and, List.length_append, List.length_set, List.length_cons, List.length_nil, Nat.zero_add, Nat.mul_one]); omega) | ((try dsimp only [Ty.T, Ty.size]); (try simp only [castL_self, Int.toNat_natCast, Int.toNat_zero, Int.toNat_one, true_and, List.length_append, List.length_set, List.length_drop, List.length_take, List.length_replicate, List.length_cons, List.length_nil, Nat.zero_add, Nat.mul_one]); omega) | decide | (intros; simp_all; done) | (intros; simp_all; omega)) ?_
        refine ⟨n0 - 1, i + 1, [1], by omega, ⟨by omega, by omega⟩, ⟨by decide, rfl⟩, ⟨⟨rfl, rfl, by show List.replicate i (((powN P.toNat : Nat) : Int) - 1) ++ [((powN (if 5 < P then 5 else P : Int).toNat : Nat) : Int) - 1] = _; rw [show (if 5 < P then 5 else P : Int) = P from if_neg (by omega), List.replicate_succ']⟩, trivial⟩, ?_⟩
        repeat' first | exact True.intro | exact rfl | exact ⟨rfl, rfl⟩ | refine And.intro ?_ ?_
      · try dsimp only [Ty.T] at h2
        try simp only [castL_self] at h2
        try simp only [Int.toNat_natCast] at h2
        try simp only [Int.toNat_zero] at h2
        refine AWPD.exit ?_
        refine hK10 _ _ ?_
        clear hK10
        refine AWPD.seq fun K15 hK15 => ?_
        -- region 12
        have hi : i = P.toNat := by omega
        subst hi
        refine AWPD.freeze 11 rfl rfl rfl ?_
        refine AWPD.keep [2, 3, 11] rfl ?_
        refine AWPD.region tabOK rfl ?_
        repeat refine And.intro (by first | exact fun h => h | exact fun _ => rfl | omega | ((try dsimp only [Ty.T]); (try simp only [castL_self]); (try simp only [Int.toNat_natCast]); (try simp only [Int.toNat_zero]); (try simp only [true_and]); omega) | (intros; (try dsimp only [Ty.T]); (try simp only [castL_self]); (try simp only [Int.toNat_natCast]); (try simp only [Int.toNat_zero]); (try simp only [true_and]); omega) | ((try dsimp only [Ty.T, Ty.size]); (try simp only [castL_self, Int.toNat_natCast, Int.toNat_zero, true_and, List.length_append, List.length_set, List.length_cons, List.length_nil, Nat.zero_add, Nat.mul_one]); omega) | ((try dsimp only [Ty.T, Ty.size]); (try simp only [castL_self, Int.toNat_natCast, Int.toNat_zero, Int.toNat_one, true_and, List.length_append, List.length_set, List.length_drop, List.length_take, List.length_replicate, List.length_cons, List.length_nil, Nat.zero_add, Nat.mul_one]); omega) | decide | (intros; simp_all; done) | (intros; simp_all; omega)) ?_
        refine Exists.intro _ (Exists.intro _ (And.intro (StepD.call (quiet_fn P A N S (List.replicate P.toNat (((powN P.toNat : Nat) : Int) - 1)) part) rfl rfl rfl) (And.intro rfl (And.intro trivial ?_))))
        refine hK15 _ _ ?_
        clear hK15
        refine AWPD.seq fun K16 hK16 => ?_
        -- region 13
        refine AWPD.keep [13, 15] rfl ?_
        refine AWPD.region tabOK rfl ?_
        repeat refine And.intro (by first | exact fun h => h | exact fun _ => rfl | omega | ((try dsimp only [Ty.T]); (try simp only [castL_self]); (try simp only [Int.toNat_natCast]); (try simp only [Int.toNat_zero]); (try simp only [true_and]); omega) | (intros; (try dsimp only [Ty.T]); (try simp only [castL_self]); (try simp only [Int.toNat_natCast]); (try simp only [Int.toNat_zero]); (try simp only [true_and]); omega) | ((try dsimp only [Ty.T, Ty.size]); (try simp only [castL_self, Int.toNat_natCast, Int.toNat_zero, true_and, List.length_append, List.length_set, List.length_cons, List.length_nil, Nat.zero_add, Nat.mul_one]); omega) | ((try dsimp only [Ty.T, Ty.size]); (try simp only [castL_self, Int.toNat_natCast, Int.toNat_zero, Int.toNat_one, true_and, List.length_append, List.length_set, List.length_drop, List.length_take, List.length_replicate, List.length_cons, List.length_nil, Nat.zero_add, Nat.mul_one]); omega) | decide | (intros; simp_all; done) | (intros; simp_all; omega)) ?_
        refine hK16 _ _ ?_
        clear hK16
        refine AWPD.ret (And.intro (.inl rfl) ?_)
        -- result 1
        refine RetD.one ?_
        have gf := chk_good hfc
        exact fitB rfl (by show (bif decide (chkE P A N S (List.replicate P.toNat (((powN P.toNat : Nat) : Int) - 1)) part = 0) then quietV P A N S (List.replicate P.toNat (((powN P.toNat : Nat) : Int) - 1)) part else false) = true; unfold quietV; rw [if_pos (show chkE P A N S (List.replicate P.toNat (((powN P.toNat : Nat) : Int) - 1)) part = 0 from hfc), decide_eq_true (show chkE P A N S (List.replicate P.toNat (((powN P.toNat : Nat) : Int) - 1)) part = 0 from hfc)]; exact gf.qu_all hfa)
theorem purgeQuiet_fn (P : Int) (A : List Int) (N S : List (List Int)) (f : List Int) (part : Int) (w : List Int) : LiftsD Try.prog 7 [.agg [.i P, .sl .int A, .sl (.sl .int) N, .sl (.sl .int) S], .sl .int f, .i part, .sl .int w] (.b true) := by
  refine LiftsD.of_body 112 [.tmp 8] Try.func7 rfl Try.ntmps7 (by kernel_rfl) rfl rfl fun w0 X0 => ?_
  refine AWPD.seq fun K1 hK1 => ?_
  -- region 0
  refine AWPD.keep [0, 1, 2, 3] rfl ?_
  refine AWPD.region tabOK rfl ?_
  refine hK1 _ _ ?_
  clear hK1
  refine AWPD.seq fun K2 hK2 => ?_
  -- region 1
  refine AWPD.keep [1, 2, 3, 4] rfl ?_
  refine AWPD.region tabOK rfl ?_
  refine Exists.intro _ (Exists.intro _ (And.intro (StepD.call (purgeFact_fn) rfl rfl rfl) (And.intro rfl (And.intro trivial ?_))))
  refine hK2 _ _ ?_
  clear hK2
  refine AWPD.seq fun K3 hK3 => ?_
  refine AWPD.seq fun K4 hK4 => ?_
  -- region 2
  refine AWPD.keep [1, 2, 3, 4, 9] rfl ?_
  refine AWPD.region tabOK rfl ?_
  refine hK4 _ _ ?_
  clear hK4
  first | refine AWPD.condP rfl (fun h0 => ?_) (fun h0 => ?_) | refine AWPD.condN rfl (fun h0 => ?_) (fun h0 => ?_) | refine AWPD.condAP rfl (fun h0 => ?_) (fun h0 => ?_) | refine AWPD.condOP rfl (fun h0 => ?_) (fun h0 => ?_) | refine AWPD.condONN rfl (fun h0 => ?_) (fun h0 => ?_) | refine AWPD.condOPN rfl (fun h0 => ?_) (fun h0 => ?_) | refine AWPD.condA rfl (fun h0 => ?_) (fun h0 => ?_) | refine AWPD.condO rfl (fun h0 => ?_) (fun h0 => ?_) | refine AWPD.cond rfl (fun h0 => ?_) (fun h0 => ?_)
  · try dsimp only [Ty.T] at h0
    try simp only [castL_self] at h0
    try simp only [Int.toNat_natCast] at h0
    try simp only [Int.toNat_zero] at h0
    exact absurd h0 (by decide)
  · try dsimp only [Ty.T] at h0
    try simp only [castL_self] at h0
    try simp only [Int.toNat_natCast] at h0
    try simp only [Int.toNat_zero] at h0
    refine AWPD.skip ?_
    refine hK3 _ _ ?_
    clear hK3
    refine AWPD.seq fun K5 hK5 => ?_
    -- region 4
    refine AWPD.keep [1, 2, 3, 4] rfl ?_
    refine AWPD.region tabOK rfl ?_
    repeat refine And.intro (by first | exact fun h => h | exact fun _ => rfl | omega | ((try dsimp only [Ty.T]); (try simp only [castL_self]); (try simp only [Int.toNat_natCast]); (try simp only [Int.toNat_zero]); (try simp only [true_and]); omega) | (intros; (try dsimp only [Ty.T]); (try simp only [castL_self]); (try simp only [Int.toNat_natCast]); (try simp only [Int.toNat_zero]); (try simp only [true_and]); omega) | ((try dsimp only [Ty.T, Ty.size]); (try simp only [castL_self, Int.toNat_natCast, Int.toNat_zero, true_and, List.length_append, List.length_set, List.length_cons, List.length_nil, Nat.zero_add, Nat.mul_one]); omega) | ((try dsimp only [Ty.T, Ty.size]); (try simp only [castL_self, Int.toNat_natCast, Int.toNat_zero, Int.toNat_one, true_and, List.length_append, List.length_set, List.length_drop, List.length_take, List.length_replicate, List.length_cons, List.length_nil, Nat.zero_add, Nat.mul_one]); omega) | decide | (intros; simp_all; done) | (intros; simp_all; omega)) ?_
    refine Exists.intro _ (Exists.intro _ (And.intro (StepD.call (quiet_fn _ _ _ _ _ _) rfl rfl rfl) (And.intro rfl (And.intro trivial ?_))))
    refine hK5 _ _ ?_
    clear hK5
    refine AWPD.seq fun K6 hK6 => ?_
    -- region 5
    refine AWPD.keep [1, 2, 3, 4, 10, 12] rfl ?_
    refine AWPD.region tabOK rfl ?_
    repeat refine And.intro (by first | exact fun h => h | exact fun _ => rfl | omega | ((try dsimp only [Ty.T]); (try simp only [castL_self]); (try simp only [Int.toNat_natCast]); (try simp only [Int.toNat_zero]); (try simp only [true_and]); omega) | (intros; (try dsimp only [Ty.T]); (try simp only [castL_self]); (try simp only [Int.toNat_natCast]); (try simp only [Int.toNat_zero]); (try simp only [true_and]); omega) | ((try dsimp only [Ty.T, Ty.size]); (try simp only [castL_self, Int.toNat_natCast, Int.toNat_zero, true_and, List.length_append, List.length_set, List.length_cons, List.length_nil, Nat.zero_add, Nat.mul_one]); omega) | ((try dsimp only [Ty.T, Ty.size]); (try simp only [castL_self, Int.toNat_natCast, Int.toNat_zero, Int.toNat_one, true_and, List.length_append, List.length_set, List.length_drop, List.length_take, List.length_replicate, List.length_cons, List.length_nil, Nat.zero_add, Nat.mul_one]); omega) | decide | (intros; simp_all; done) | (intros; simp_all; omega)) ?_
    refine Exists.intro _ (Exists.intro _ (And.intro (StepD.call (purge_fn _ _ _ _ _ _ _) rfl rfl rfl) (And.intro rfl (And.intro trivial ?_))))
    refine hK6 _ _ ?_
    clear hK6
    refine AWPD.seq fun K7 hK7 => ?_
    refine AWPD.seq fun K8 hK8 => ?_
    -- region 6
    refine AWPD.keep [2, 3, 4, 10, 12, 13, 14] rfl ?_
    refine AWPD.region tabOK rfl ?_
    repeat refine And.intro (by first | exact fun h => h | exact fun _ => rfl | omega | ((try dsimp only [Ty.T]); (try simp only [castL_self]); (try simp only [Int.toNat_natCast]); (try simp only [Int.toNat_zero]); (try simp only [true_and]); omega) | (intros; (try dsimp only [Ty.T]); (try simp only [castL_self]); (try simp only [Int.toNat_natCast]); (try simp only [Int.toNat_zero]); (try simp only [true_and]); omega) | ((try dsimp only [Ty.T, Ty.size]); (try simp only [castL_self, Int.toNat_natCast, Int.toNat_zero, true_and, List.length_append, List.length_set, List.length_cons, List.length_nil, Nat.zero_add, Nat.mul_one]); omega) | ((try dsimp only [Ty.T, Ty.size]); (try simp only [castL_self, Int.toNat_natCast, Int.toNat_zero, Int.toNat_one, true_and, List.length_append, List.length_set, List.length_drop, List.length_take, List.length_replicate, List.length_cons, List.length_nil, Nat.zero_add, Nat.mul_one]); omega) | decide | (intros; simp_all; done) | (intros; simp_all; omega)) ?_
    refine hK8 _ _ ?_
    clear hK8
    first | refine AWPD.cond rfl (fun h1 => ?_) (fun h1 => ?_)
    · try dsimp only [Ty.T] at h1
      try simp only [castL_self] at h1
      try simp only [Int.toNat_natCast] at h1
      try simp only [Int.toNat_zero] at h1
      simp only [Bool.cond_true_left, Bool.cond_false_right, Bool.cond_true_right, Bool.cond_false_left, Bool.or_eq_true, Bool.and_eq_true, decide_eq_true_eq, Bool.or_eq_false_iff, Bool.and_eq_false_iff, decide_eq_false_iff_not, Bool.not_eq_true', Bool.not_eq_false', Bool.not_eq_eq_eq_not, Bool.not_true, Bool.not_false] at h1
      refine AWPD.seq fun K9 hK9 => ?_
      -- region 7
      refine AWPD.keep [10, 13] rfl ?_
      refine AWPD.region tabOK rfl ?_
      repeat refine And.intro (by first | exact fun h => h | exact fun _ => rfl | omega | ((try dsimp only [Ty.T]); (try simp only [castL_self]); (try simp only [Int.toNat_natCast]); (try simp only [Int.toNat_zero]); (try simp only [true_and]); omega) | (intros; (try dsimp only [Ty.T]); (try simp only [castL_self]); (try simp only [Int.toNat_natCast]); (try simp only [Int.toNat_zero]); (try simp only [true_and]); omega) | ((try dsimp only [Ty.T, Ty.size]); (try simp only [castL_self, Int.toNat_natCast, Int.toNat_zero, true_and, List.length_append, List.length_set, List.length_cons, List.length_nil, Nat.zero_add, Nat.mul_one]); omega) | ((try dsimp only [Ty.T, Ty.size]); (try simp only [castL_self, Int.toNat_natCast, Int.toNat_zero, Int.toNat_one, true_and, List.length_append, List.length_set, List.length_drop, List.length_take, List.length_replicate, List.length_cons, List.length_nil, Nat.zero_add, Nat.mul_one]); omega) | decide | (intros; simp_all; done) | (intros; simp_all; omega)) ?_
      refine hK9 _ _ ?_
      clear hK9
      refine AWPD.ret (And.intro (.inl rfl) ?_)
      -- result 0
      refine RetD.one ?_
      refine fitB rfl ?_
      by_cases hc : chkE P A N S f part = 0
      · have hn : bothE P A N S f part w ≠ 0 := by
          omega
        have e1 : purgeV P A N S f part w = [] := by unfold purgeV; rw [if_neg hn]
        rw [e1]; simp
      · have e2 : quietV P A N S f part = false := by unfold quietV; rw [if_neg hc]
        rw [e2]; rfl
    · try dsimp only [Ty.T] at h1
      try simp only [castL_self] at h1
      try simp only [Int.toNat_natCast] at h1
      try simp only [Int.toNat_zero] at h1
      simp only [Bool.cond_true_left, Bool.cond_false_right, Bool.cond_true_right, Bool.cond_false_left, Bool.or_eq_true, Bool.and_eq_true, decide_eq_true_eq, Bool.or_eq_false_iff, Bool.and_eq_false_iff, decide_eq_false_iff_not, Bool.not_eq_true', Bool.not_eq_false', Bool.not_eq_eq_eq_not, Bool.not_true, Bool.not_false] at h1
      have hb : bothE P A N S f part w = 0 := by omega
      have hc : chkE P A N S f part = 0 := by omega
      have g := both_ok hb
      have gc := chk_good hc
      have gP := g.m.parts
      have gp := g.part
      have gs := g.m.some
      have gS := g.m.lenS
      have e1 : purgeV P A N S f part w = purgeL A f part w := by unfold purgeV; rw [if_pos hb]
      have e2 : quietV P A N S f part = quietB N A f part S := by unfold quietV; rw [if_pos hc]
      have l2 := purgeL_len A f part w
      have gw := g.few
      have wv : inAll (purgeL A f part w) ((A.length : Int) - 1) := inAll_mem.2 fun x hx => inAll_mem.1 g.w x (purge_mem hx)
      have r1 : runE P A N S 0 w = 0 := by unfold runE; rw [if_neg (fun h => h (word_zero g.he g.few g.w)), if_pos (by omega)]
      have r2 : runE P A N S 0 (purgeL A f part w) = 0 := by unfold runE; rw [if_neg (fun h => h (word_zero g.he (by omega) wv)), if_pos (by omega)]
      have e3 : runV P A N S 0 w = runN N 0 w w.length := by unfold runV; rw [if_pos r1]
      have e4 : runV P A N S 0 (purgeL A f part w) = runN N 0 (purgeL A f part w) (purgeL A f part w).length := by unfold runV; rw [if_pos r2]
      have i1 := runN_in g.m (s := 0) (by omega) g.w w.length (Nat.le_refl _)
      have i2 := runN_in g.m (s := 0) (by omega) wv (purgeL A f part w).length (Nat.le_refl _)
      have s1 := g.m.rowS (runN N 0 w w.length).toNat (by omega)
      have s2 := g.m.rowS (runN N 0 (purgeL A f part w) (purgeL A f part w).length).toNat (by omega)
      have hq := fun h => gc.qu_quiet h g.w
      rw [e1, e2]
      refine AWPD.skip ?_
      refine hK7 _ _ ?_
      clear hK7
      refine AWPD.seq fun K10 hK10 => ?_
      -- region 8
      refine AWPD.keep [2, 3, 4, 10, 13] rfl ?_
      refine AWPD.region tabOK rfl ?_
      repeat refine And.intro (by first | exact fun h => h | exact fun _ => rfl | omega | ((try dsimp only [Ty.T]); (try simp only [castL_self]); (try simp only [Int.toNat_natCast]); (try simp only [Int.toNat_zero]); (try simp only [true_and]); omega) | (intros; (try dsimp only [Ty.T]); (try simp only [castL_self]); (try simp only [Int.toNat_natCast]); (try simp only [Int.toNat_zero]); (try simp only [true_and]); omega) | ((try dsimp only [Ty.T, Ty.size]); (try simp only [castL_self, Int.toNat_natCast, Int.toNat_zero, true_and, List.length_append, List.length_set, List.length_cons, List.length_nil, Nat.zero_add, Nat.mul_one]); omega) | ((try dsimp only [Ty.T, Ty.size]); (try simp only [castL_self, Int.toNat_natCast, Int.toNat_zero, Int.toNat_one, true_and, List.length_append, List.length_set, List.length_drop, List.length_take, List.length_replicate, List.length_cons, List.length_nil, Nat.zero_add, Nat.mul_one]); omega) | decide | (intros; simp_all; done) | (intros; simp_all; omega)) ?_
      refine Exists.intro _ (Exists.intro _ (And.intro (StepD.call (run_fn _ _ _ _ _ _) rfl rfl rfl) (And.intro rfl (And.intro trivial ?_))))
      refine hK10 _ _ ?_
      clear hK10
      refine AWPD.seq fun K11 hK11 => ?_
      -- region 9
      refine AWPD.keep [2, 4, 10, 13, 15, 16] rfl ?_
      refine AWPD.region tabOK rfl ?_
      repeat refine And.intro (by first | exact fun h => h | exact fun _ => rfl | omega | ((try dsimp only [Ty.T]); (try simp only [castL_self]); (try simp only [Int.toNat_natCast]); (try simp only [Int.toNat_zero]); (try simp only [true_and]); omega) | (intros; (try dsimp only [Ty.T]); (try simp only [castL_self]); (try simp only [Int.toNat_natCast]); (try simp only [Int.toNat_zero]); (try simp only [true_and]); omega) | ((try dsimp only [Ty.T, Ty.size]); (try simp only [castL_self, Int.toNat_natCast, Int.toNat_zero, true_and, List.length_append, List.length_set, List.length_cons, List.length_nil, Nat.zero_add, Nat.mul_one]); omega) | ((try dsimp only [Ty.T, Ty.size]); (try simp only [castL_self, Int.toNat_natCast, Int.toNat_zero, Int.toNat_one, true_and, List.length_append, List.length_set, List.length_drop, List.length_take, List.length_replicate, List.length_cons, List.length_nil, Nat.zero_add, Nat.mul_one]); omega) | decide | (intros; simp_all; done) | (intros; simp_all; omega)) ?_
      refine Exists.intro _ (Exists.intro _ (And.intro (StepD.call (run_fn _ _ _ _ _ _) rfl rfl rfl) (And.intro rfl (And.intro trivial ?_))))
      refine hK11 _ _ ?_
      clear hK11
      refine AWPD.seq fun K12 hK12 => ?_
      refine AWPD.seq fun K13 hK13 => ?_
      -- region 10
      rw [e3, e4, r1, r2]
      refine AWPD.keep [2, 4, 10, 15, 16, 17, 18] rfl ?_
      refine AWPD.region tabOK rfl ?_
      repeat refine And.intro (by first | exact fun h => h | exact fun _ => rfl | omega | ((try dsimp only [Ty.T]); (try simp only [castL_self]); (try simp only [Int.toNat_natCast]); (try simp only [Int.toNat_zero]); (try simp only [true_and]); omega) | (intros; (try dsimp only [Ty.T]); (try simp only [castL_self]); (try simp only [Int.toNat_natCast]); (try simp only [Int.toNat_zero]); (try simp only [true_and]); omega) | ((try dsimp only [Ty.T, Ty.size]); (try simp only [castL_self, Int.toNat_natCast, Int.toNat_zero, true_and, List.length_append, List.length_set, List.length_cons, List.length_nil, Nat.zero_add, Nat.mul_one]); omega) | ((try dsimp only [Ty.T, Ty.size]); (try simp only [castL_self, Int.toNat_natCast, Int.toNat_zero, Int.toNat_one, true_and, List.length_append, List.length_set, List.length_drop, List.length_take, List.length_replicate, List.length_cons, List.length_nil, Nat.zero_add, Nat.mul_one]); omega) | decide | (intros; simp_all; done) | (intros; simp_all; omega)) ?_
      refine hK13 _ _ ?_
      clear hK13
      first | refine AWPD.cond rfl (fun h2 => ?_) (fun h2 => ?_)
      · try dsimp only [Ty.T] at h2
        try simp only [castL_self] at h2
        try simp only [Int.toNat_natCast] at h2
        try simp only [Int.toNat_zero] at h2
        exfalso; first | (simp at h2; done) | (simp at h2; omega)
      · try dsimp only [Ty.T] at h2
        try simp only [castL_self] at h2
        try simp only [Int.toNat_natCast] at h2
        try simp only [Int.toNat_zero] at h2
        refine AWPD.skip ?_
        refine hK12 _ _ ?_
        clear hK12
        refine AWPD.seq fun K14 hK14 => ?_
        -- region 12
        refine AWPD.keep [2, 4, 10, 15, 17] rfl ?_
        refine AWPD.draw tabOK [] rfl (by kernel_rfl) ?_
        repeat refine And.intro (by first | exact fun h => h | exact fun _ => rfl | omega | ((try dsimp only [Ty.T]); (try simp only [castL_self]); (try simp only [Int.toNat_natCast]); (try simp only [Int.toNat_zero]); (try simp only [true_and]); omega) | (intros; (try dsimp only [Ty.T]); (try simp only [castL_self]); (try simp only [Int.toNat_natCast]); (try simp only [Int.toNat_zero]); (try simp only [true_and]); omega) | ((try dsimp only [Ty.T, Ty.size]); (try simp only [castL_self, Int.toNat_natCast, Int.toNat_zero, true_and, List.length_append, List.length_set, List.length_cons, List.length_nil, Nat.zero_add, Nat.mul_one]); omega) | ((try dsimp only [Ty.T, Ty.size]); (try simp only [castL_self, Int.toNat_natCast, Int.toNat_zero, Int.toNat_one, true_and, List.length_append, List.length_set, List.length_drop, List.length_take, List.length_replicate, List.length_cons, List.length_nil, Nat.zero_add, Nat.mul_one]); omega) | decide | (intros; simp_all; done) | (intros; simp_all; omega)) ?_
        refine hK14 _ _ ?_
        clear hK14
        refine AWPD.ret (And.intro (.inl rfl) ?_)
        -- result 1
        refine RetD.one ?_
        refine fitB rfl ?_
        cases hb2 : quietB N A f part S with
        | false => rfl
        | true => exact decide_eq_true (hq hb2)
end Go.Proofs.Ytndoigkmdcgjfaa
