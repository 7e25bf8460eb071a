/-
  WALKS of the laws of who is quiet. Laid by a program of mine out of the operations, with the loops and results told by hand.
-/
import Derived.Test.YtndoigkmdcgjfaaDoorQwQt
set_option linter.unusedSectionVars false
namespace Go.Proofs.YtndoigkmdcgjfaaDoor
open Go Go.Qw
set_option maxRecDepth 10000
set_option linter.unusedSimpArgs false
set_option linter.unusedVariables false


def rngP (N : List (List Int)) (x : Pr) : Prop := 0 ≤ x.1 ∧ x.1 < (N.length : Int) ∧ 0 ≤ x.2 ∧ x.2 < (N.length : Int)
theorem pAdd_mem {x y : Pr} {xs : List Pr} : y ∈ qAdd .two x xs ↔ y ∈ xs ∨ y = x := by
  rcases pAdd_or x xs with ⟨h, hm, _⟩ | ⟨h, hm, _⟩
  · rw [h]
    exact ⟨.inl, fun h => h.elim id (fun e => e ▸ hm)⟩
  · rw [h, List.mem_append, List.mem_singleton]
theorem pAdd_nodup {x : Pr} {xs : List Pr} (hn : xs.Nodup) : (qAdd .two x xs).Nodup := by
  rcases pAdd_or x xs with ⟨h, hm, _⟩ | ⟨h, hm, _⟩
  · rw [h]; exact hn
  · rw [h, List.nodup_append]
    exact ⟨hn, by simp, fun a ha b hb e => hm (by rw [List.mem_singleton] at hb; rw [← hb, ← e]; exact ha)⟩
theorem getP_in {N : List (List Int)} (hN : 0 < N.length) {xs : List Pr} (h : ∀ x ∈ xs, rngP N x) (k : Nat) : rngP N (xs.getD k (0, 0)) := by
  by_cases hk : k < xs.length
  · exact h _ (getD_mem hk _)
  · simp [List.getD, hk, rngP]; omega
theorem quI_mem {N : List (List Int)} {A f : List Int} {part : Int} {q0 : List Pr} {at_ : Nat} {s : QS} {y : Pr} : ∀ {k}, y ∈ (quI N A f part q0 at_ s k).1 ↔ y ∈ s.1 ∨ ∃ a, a < k ∧ y = nxtP N A f part (q0.getD at_ (0, 0)) a
  | 0 => by simp [quI]
  | k + 1 => by
    rw [quI]
    refine (pAdd_mem (x := nxtP N A f part (q0.getD at_ (0, 0)) k) (xs := (quI N A f part q0 at_ s k).1)).trans ?_
    rw [quI_mem]
    constructor
    · rintro ((h | ⟨j, h1, h2⟩) | h)
      · exact .inl h
      · exact .inr ⟨j, by omega, h2⟩
      · exact .inr ⟨k, by omega, h⟩
    · rintro (h | ⟨j, h1, h2⟩)
      · exact .inl (.inl h)
      · rcases Nat.lt_or_ge j k with h3 | h3
        · exact .inl (.inr ⟨j, h3, h2⟩)
        · exact .inr (by rw [h2, show j = k by omega])
theorem quI_nodup {N : List (List Int)} {A f : List Int} {part : Int} {q0 : List Pr} {at_ : Nat} {s : QS} (h : s.1.Nodup) : ∀ k, (quI N A f part q0 at_ s k).1.Nodup
  | 0 => h
  | k + 1 => pAdd_nodup (quI_nodup h k)
theorem quO_nodup (N : List (List Int)) (A f : List Int) (part : Int) : ∀ k, (quO N A f part k).1.Nodup
  | 0 => by show ([((0 : Int), (0 : Int))] : List Pr).Nodup; simp
  | k + 1 => quI_nodup (quO_nodup N A f part k) A.length
theorem GoodC.quO_rng {P : Int} {A : List Int} {N S : List (List Int)} {f : List Int} {part : Int} (g : GoodC P A N S f part) : ∀ k, ∀ x ∈ (quO N A f part k).1, rngP N x
  | 0, x, hx => by
    have := g.m.some
    have h := List.mem_singleton.1 (show x ∈ [(((0 : Int), (0 : Int)) : Pr)] from hx)
    subst h; simp [rngP]; omega
  | k + 1, x, hx => by
    have hs := g.m.some
    rcases quI_mem.1 hx with h | ⟨a, ha, rfl⟩
    · exact g.quO_rng k x h
    · exact g.nxt (getP_in hs (g.quO_rng k) k) ha
theorem GoodC.quO_few {P : Int} {A : List Int} {N S : List (List Int)} {f : List Int} {part : Int} (g : GoodC P A N S f part) (k : Nat) : (quO N A f part k).1.length ≤ 256 := few_pairs g.m.few (quO_nodup N A f part k) (g.quO_rng k)
theorem quO_mono (N : List (List Int)) (A f : List Int) (part : Int) {i : Nat} : ∀ {j}, i ≤ j → (quO N A f part i).1 <+: (quO N A f part j).1
  | 0, h => by rw [show i = 0 by omega]; exact List.prefix_rfl
  | j + 1, h => by
    rcases Nat.lt_or_ge i (j + 1) with h1 | h1
    · exact (quO_mono N A f part (by omega)).trans (quO_pre N A f part j)
    · rw [show i = j + 1 by omega]; exact List.prefix_rfl
theorem getP_pre {xs ys : List Pr} (h : xs <+: ys) {k : Nat} (hk : k < xs.length) : ys.getD k (0, 0) = xs.getD k (0, 0) := by
  obtain ⟨t, rfl⟩ := h
  simp only [List.getD, List.getElem?_append_left hk]
theorem stopB_spec (f : Nat → Nat) (b : Nat → Bool) (hb : ∀ k, f k ≤ 257) : ∀ n k, n + k = 257 → f (stopB f b n k) ≤ stopB f b n k ∨ (stopB f b n k < f (stopB f b n k) ∧ b (stopB f b n k) = true)
  | 0, k, h => by
    have := hb k
    rw [stopB]
    exact .inl (by omega)
  | n + 1, k, h => by
    rw [stopB]
    split
    · rename_i h1
      split
      · rename_i h2; exact .inr ⟨h1, h2⟩
      · exact stopB_spec f b hb n (k + 1) (by omega)
    · exact .inl (by omega)
theorem stopB_long (f : Nat → Nat) (b : Nat → Bool) : ∀ n k j, k ≤ j → j < stopB f b n k → j < f j ∧ b j = false
  | 0, k, j, hj, hlt => by rw [stopB] at hlt; omega
  | n + 1, k, j, hj, hlt => by
    rw [stopB] at hlt
    split at hlt
    · rename_i h1
      split at hlt
      · omega
      · rename_i h2
        rcases Nat.lt_or_ge k j with h3 | h3
        · exact stopB_long f b n (k + 1) j (by omega) hlt
        · rw [show j = k by omega]; exact ⟨h1, by simpa using h2⟩
    · omega
theorem GoodC.qu_long {P : Int} {A : List Int} {N S : List (List Int)} {f : List Int} {part : Int} (_g : GoodC P A N S f part) {j : Nat} (hj : j < quEnd N A f part S) : j < (quO N A f part j).1.length ∧ quBad N A f part S j = false :=
  stopB_long _ _ 257 0 j (Nat.zero_le _) hj
theorem GoodC.qu_loud {P : Int} {A : List Int} {N S : List (List Int)} {f : List Int} {part : Int} (g : GoodC P A N S f part) (h : quietB N A f part S = false) : quEnd N A f part S < (quO N A f part (quEnd N A f part S)).1.length ∧ quBad N A f part S (quEnd N A f part S) = true := by
  have h1 := of_decide_eq_false h
  rcases stopB_spec (fun k => (quO N A f part k).1.length) (quBad N A f part S) (fun k => by have := g.quO_few k; show (quO N A f part k).1.length ≤ 257; omega) 257 0 rfl with h2 | h2
  · exact absurd h2 h1
  · exact h2
/-- Where it is quiet: the last queue is closed under all acts, and none of its pairs looks different. -/
theorem GoodC.qu_next {P : Int} {A : List Int} {N S : List (List Int)} {f : List Int} {part : Int} (g : GoodC P A N S f part) (h : quietB N A f part S = true) {x : Pr} (hx : x ∈ (quO N A f part (quEnd N A f part S)).1) :
    badP S part x = false ∧ ∀ a, a < A.length → nxtP N A f part x a ∈ (quO N A f part (quEnd N A f part S)).1 := by
  have hlen := of_decide_eq_true h
  obtain ⟨j, hj, e⟩ := List.mem_iff_getElem.1 hx
  have e2 : (quO N A f part (quEnd N A f part S)).1.getD j (0, 0) = x := by simp [List.getD, hj, e]
  obtain ⟨l1, l2⟩ := g.qu_long (show j < quEnd N A f part S by omega)
  have e3 := getP_pre (quO_mono N A f part (show j ≤ quEnd N A f part S by omega)) l1
  rw [e2] at e3
  refine ⟨by rw [e3]; exact l2, fun a ha => (quO_mono N A f part (show j + 1 ≤ quEnd N A f part S by omega)).subset ?_⟩
  exact quI_mem.2 (.inr ⟨a, ha, by rw [e3]⟩)
theorem run_snoc (N : List (List Int)) (s : Int) (v : List Int) (a : Int) : runN N s (v ++ [a]) (v.length + 1) = (N.getD (runN N s v v.length).toNat []).getD a.toNat 0 := run_behind N s v [a] 1 (Nat.le_refl _)
theorem GoodC.qu_run {P : Int} {A : List Int} {N S : List (List Int)} {f : List Int} {part : Int} (g : GoodC P A N S f part) (h : quietB N A f part S = true) {w : List Int} (hw : inAll w ((A.length : Int) - 1)) : ∀ i, i ≤ w.length →
    (runN N 0 w i, runN N 0 (purgeL A f part (w.take i)) (purgeL A f part (w.take i)).length) ∈ (quO N A f part (quEnd N A f part S)).1
  | 0, _ => (quO_mono N A f part (Nat.zero_le _)).subset (show (((0 : Int), (0 : Int)) : Pr) ∈ [(((0 : Int), (0 : Int)) : Pr)] from List.mem_singleton.2 rfl)
  | i + 1, hi => by
    have ih := (g.qu_next h (g.qu_run h hw i (by omega))).2 (w.getD i 0).toNat (by have := hw i (by omega); omega)
    have ha := hw i (by omega)
    have ea : (((w.getD i 0).toNat : Nat) : Int) = w.getD i 0 := by omega
    unfold nxtP at ih
    rw [ea] at ih
    by_cases hc : actOn A f part (w.getD i 0) = true
    · rw [if_pos hc] at ih
      rw [← purge_yes (by omega) hc, List.length_append]
      have := run_snoc N 0 (purgeL A f part (w.take i)) (w.getD i 0)
      rw [show (purgeL A f part (w.take i)).length + [w.getD i 0].length = (purgeL A f part (w.take i)).length + 1 from rfl, this]
      exact ih
    · rw [if_neg hc] at ih
      rw [← purge_no (by omega) hc]
      exact ih
theorem GoodC.qu_quiet {P : Int} {A : List Int} {N S : List (List Int)} {f : List Int} {part : Int} (g : GoodC P A N S f part) (h : quietB N A f part S = true) {w : List Int} (hw : inAll w ((A.length : Int) - 1)) :
    (S.getD (runN N 0 w w.length).toNat []).getD part.toNat 0 = (S.getD (runN N 0 (purgeL A f part w) (purgeL A f part w).length).toNat []).getD part.toNat 0 := by
  have := (g.qu_next h (g.qu_run h hw w.length (Nat.le_refl _))).1
  rw [List.take_of_length_le (Nat.le_refl _)] at this
  exact Decidable.not_not.1 (of_decide_eq_false this)
/-- Where all may act none is told apart. -/
theorem GoodC.qu_all {P : Int} {A : List Int} {N S : List (List Int)} {f : List Int} {part : Int} (g : GoodC P A N S f part) (h : ∀ a, a < A.length → actOn A f part (a : Int) = true) : quietB N A f part S = true := by
  have same : ∀ k, ∀ x ∈ (quO N A f part k).1, x.1 = x.2 := by
    intro k
    induction k with
    | zero =>
      intro x hx
      have h := List.mem_singleton.1 (show x ∈ [(((0 : Int), (0 : Int)) : Pr)] from hx)
      subst h; rfl
    | succ k ih =>
      intro x hx
      rcases quI_mem.1 hx with h1 | ⟨a, ha, rfl⟩
      · exact ih x h1
      · have : ((quO N A f part k).1.getD k (0, 0)).1 = ((quO N A f part k).1.getD k (0, 0)).2 := by
          by_cases hk : k < (quO N A f part k).1.length
          · exact ih _ (getD_mem hk _)
          · simp [List.getD, hk]
        rw [nxt_yes (h a ha), this]
  cases hq : quietB N A f part S with
  | true => rfl
  | false =>
    obtain ⟨h1, h2⟩ := g.qu_loud hq
    have h3 := of_decide_eq_true h2
    rw [same _ _ (getD_mem h1 _)] at h3
    exact absurd rfl h3
theorem ones_bit (n i : Nat) : (2 ^ n - 1).testBit i = decide (i < n) := Nat.testBit_two_pow_sub_one n i
theorem full_chk {P : Int} {A : List Int} {N S : List (List Int)} {f : List Int} {part : Int} (h : chkE P A N S f part = 0) : chkE P A N S (List.replicate P.toNat (((2 ^ P.toNat : Nat) : Int) - 1)) part = 0 ∧ ∀ a, a < A.length → actOn A (List.replicate P.toNat (((2 ^ P.toNat : Nat) : Int) - 1)) part (a : Int) = true := by
  have g := chk_good h
  have hP := g.m.parts
  have hp := g.part
  have hpow := Nat.two_pow_pos P.toNat
  have get : ∀ i, i < P.toNat → (List.replicate P.toNat (((2 ^ P.toNat : Nat) : Int) - 1)).getD i 0 = ((2 ^ P.toNat : Nat) : Int) - 1 := fun i hi => by simp [List.getD, hi]
  have tn : (((2 ^ P.toNat : Nat) : Int) - 1).toNat = 2 ^ P.toNat - 1 := by omega
  constructor
  · unfold chkE
    have hpol : polE P A N S (List.replicate P.toNat (((2 ^ P.toNat : Nat) : Int) - 1)) = 0 := by
      rw [polE_st g.he (by rw [List.length_replicate]; omega)]
      refine fE_zero fun i hi => ?_
      rw [List.length_replicate] at hi
      unfold polSt
      rw [get i hi, tn, ones_bit, if_neg (fun hn => hn (by unfold maskB; exact decide_eq_true (by omega))), if_pos (decide_eq_true hi)]
    rw [if_neg (fun hn => hn hpol), if_pos hp]
  · intro a ha
    have h2 := g.m.acts a ha
    unfold actOn
    rw [Int.toNat_natCast, get _ (by omega), tn, ones_bit]
    exact decide_eq_true (by omega)
theorem purge_mem {A f : List Int} {part : Int} {w : List Int} {x : Int} (h : x ∈ purgeL A f part w) : x ∈ w := (List.mem_filter.1 h).1

end Go.Proofs.YtndoigkmdcgjfaaDoor
