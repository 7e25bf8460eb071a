/-
  WALKS of the law that what is left is left. Laid by a program of mine out of the operations, with the loops and results told by hand.
-/
import Derived.Test.YtndoigkmdcgjfaaDoorQwBf
namespace Go.Proofs.YtndoigkmdcgjfaaDoor
open Go Go.Qw
set_option maxRecDepth 10000
set_option linter.unusedSimpArgs false
set_option linter.unusedVariables false
set_option linter.unusedSectionVars false


/-- Out of a set, act by act. -/
def srcR (A f : List Int) (s : Nat) : List Int → Nat × List Int
  | [] => (s, [])
  | a :: l => if (f.getD (A.getD a.toNat 0).toNat 0).toNat &&& s ≠ 0 then ((srcR A f (s ||| 2 ^ (A.getD a.toNat 0).toNat) l).1, a :: (srcR A f (s ||| 2 ^ (A.getD a.toNat 0).toNat) l).2) else srcR A f s l
theorem srcR_app (A f : List Int) : ∀ (l : List Int) (s : Nat) (r : List Int), srcR A f s (l ++ r) = ((srcR A f (srcR A f s l).1 r).1, (srcR A f s l).2 ++ (srcR A f (srcR A f s l).1 r).2)
  | [], s, r => by simp [srcR]
  | a :: l, s, r => by
    rw [List.cons_append, srcR, srcR]
    split
    · rw [srcR_app A f l]; rfl
    · rw [srcR_app A f l]
theorem srcR_idem (A f : List Int) : ∀ (l : List Int) (s : Nat), srcR A f s (srcR A f s l).2 = srcR A f s l
  | [], s => rfl
  | a :: l, s => by
    rw [srcR]
    split
    · rename_i h
      rw [srcR, if_pos h, srcR_idem A f l]
    · exact srcR_idem A f l s
theorem srcR_up (A f : List Int) : ∀ (l : List Int) (s i : Nat), s.testBit i = true → (srcR A f s l).1.testBit i = true
  | [], s, i, h => h
  | a :: l, s, i, h => by
    rw [srcR]
    split
    · exact srcR_up A f l _ i (by rw [Nat.testBit_or, h]; rfl)
    · exact srcR_up A f l s i h
theorem srcR_mem (A f : List Int) : ∀ (l : List Int) (s : Nat) (x : Int), x ∈ (srcR A f s l).2 → x ∈ l
  | [], s, x, h => by cases h
  | a :: l, s, x, h => by
    rw [srcR] at h
    split at h
    · rcases List.mem_cons.1 h with h | h
      · rw [h]; exact List.mem_cons_self
      · exact List.mem_cons_of_mem _ (srcR_mem A f l _ x h)
    · exact List.mem_cons_of_mem _ (srcR_mem A f l s x h)
theorem srcS_eq (A f : List Int) (part : Int) (w : List Int) : ∀ k, k ≤ w.length → srcS A f part w k = srcR A f (2 ^ part.toNat) (w.reverse.take k)
  | 0, _ => rfl
  | k + 1, h => by
    have ih := srcS_eq A f part w k (by omega)
    have hg : w.reverse.getD k 0 = w.getD (w.length - 1 - k) 0 := by simp only [List.getD, List.getElem?_reverse (show k < w.length by omega)]
    rw [take_snoc (by rw [List.length_reverse]; omega) 0, srcR_app, ← ih, hg, srcS]
    simp only [srcR]
    split
    · rfl
    · simp
theorem srcS_all (A f : List Int) (part : Int) (w : List Int) : srcS A f part w w.length = srcR A f (2 ^ part.toNat) w.reverse := by
  rw [srcS_eq A f part w _ (Nat.le_refl _), List.take_of_length_le (by simp)]
theorem bet_again (A f : List Int) (part : Int) (w : List Int) : betL A f part (betL A f part w) = betL A f part w ∧ srcN A f part (betL A f part w) = srcN A f part w := by
  unfold betL srcN
  rw [srcS_all, srcS_all, List.reverse_reverse, srcR_idem]
  exact ⟨rfl, rfl⟩
theorem src_ahead (A f : List Int) (part : Int) (v w : List Int) : subN (srcN A f part w) (srcN A f part (v ++ w)) = true := by
  unfold srcN
  rw [srcS_all, srcS_all, List.reverse_append, srcR_app]
  exact subN_iff.2 fun i hi => srcR_up A f _ _ i hi
theorem bet_mem {A f : List Int} {part : Int} {w : List Int} {x : Int} (h : x ∈ betL A f part w) : x ∈ w := by
  unfold betL at h
  rw [srcS_all] at h
  exact List.mem_reverse.1 (srcR_mem A f _ _ x (List.mem_reverse.1 h))
theorem inAll_mem {l : List Int} {hi : Int} : inAll l hi ↔ ∀ x ∈ l, 0 ≤ x ∧ x ≤ hi := by
  constructor
  · intro h x hx
    obtain ⟨i, hl, rfl⟩ := List.mem_iff_getElem.1 hx
    have := h i hl
    simpa [List.getD, hl] using this
  · intro h a ha
    exact h _ (getD_mem ha 0)
theorem GoodW.sub {P : Int} {A : List Int} {N S : List (List Int)} {f : List Int} {part : Int} {w x : List Int} (hb : bothE P A N S f part w = 0) (hl : x.length ≤ w.length) (hm : ∀ a ∈ x, a ∈ w) : bothE P A N S f part x = 0 := by
  have g := both_ok hb
  have hc : chkE P A N S f part = 0 := by
    unfold bothE at hb
    split at hb
    · exact absurd hb (by assumption)
    · exact Decidable.not_not.1 (by assumption)
  have := g.few
  unfold bothE
  rw [if_neg (fun h => h hc)]
  exact word_zero g.he (by omega) (inAll_mem.2 fun a ha => inAll_mem.1 g.w a (hm a ha))
theorem src_in {P : Int} {A : List Int} {N S : List (List Int)} {f : List Int} {part : Int} {w : List Int} (g : GoodW P A N S f part w) : (srcN A f part w).testBit part.toNat = true ∧ 1 ≤ srcN A f part w ∧ srcN A f part w ≤ 31 := by
  have h1 := (src_inv g w.length (Nat.le_refl _)).1
  have h2 := g.src_lt w.length (Nat.le_refl _)
  refine ⟨h1, ?_, by unfold srcN; omega⟩
  rcases Nat.eq_zero_or_pos (srcN A f part w) with h | h
  · unfold srcN at h; rw [h, Nat.zero_testBit] at h1; cases h1
  · exact h
theorem srcV_in (P : Int) (A : List Int) (N S : List (List Int)) (f : List Int) (part : Int) (w : List Int) : 0 ≤ srcV P A N S f part w ∧ srcV P A N S f part w ≤ 31 := by
  unfold srcV
  split
  · rename_i h
    have := src_in (both_ok h)
    omega
  · omega

theorem sboth_fn (v w : List Int) (h : v.length + w.length ≤ 17592186044416) : LiftsD Tryd.prog 25 [.sl .int v, .sl .int w] (.sl .int (v ++ w)) := by
  refine LiftsD.of_body 12 [.tmp 4] Tryd.func25 rfl Tryd.ntmps25 (by kernel_rfl) rfl rfl fun w0 X0 => ?_
  refine AWPD.seq fun K1 hK1 => ?_
  -- region 0
  refine AWPD.keep [0, 1] rfl ?_
  refine AWPD.region tabOK rfl ?_
  refine hK1 _ _ ?_
  clear hK1
  refine AWPD.seq fun K2 hK2 => ?_
  -- region 1
  refine AWPD.keep [0, 1] rfl ?_
  refine AWPD.region tabOK rfl ?_
  refine hK2 _ _ ?_
  clear hK2
  refine AWPD.seq fun K3 hK3 => ?_
  -- region 2
  refine AWPD.keep [0, 1, 5] rfl ?_
  refine AWPD.region tabOK rfl ?_
  repeat refine And.intro (by first | exact fun h => h | exact fun _ => rfl | (intro h; rw [h]; rfl) | omega | (intros; (try dsimp only [Ty.T, Ty.size]); (try simp only [castL_self, Int.toNat_natCast, Int.toNat_zero, Int.toNat_one, true_and, List.length_append, List.length_set, List.length_drop, List.length_take, List.length_replicate, List.length_cons, List.length_nil, Nat.zero_add, Nat.mul_one]); omega) | decide | (intros; simp_all; done) | (intros; simp_all; omega)) ?_
  refine hK3 _ _ ?_
  clear hK3
  refine AWPD.seq fun K4 hK4 => ?_
  -- region 3
  refine AWPD.keep [1, 5] rfl ?_
  refine AWPD.region tabOK rfl ?_
  repeat refine And.intro (by first | exact fun h => h | exact fun _ => rfl | (intro h; rw [h]; rfl) | omega | (intros; (try dsimp only [Ty.T, Ty.size]); (try simp only [castL_self, Int.toNat_natCast, Int.toNat_zero, Int.toNat_one, true_and, List.length_append, List.length_set, List.length_drop, List.length_take, List.length_replicate, List.length_cons, List.length_nil, Nat.zero_add, Nat.mul_one]); omega) | decide | (intros; simp_all; done) | (intros; simp_all; omega)) ?_
  refine hK4 _ _ ?_
  clear hK4
  refine AWPD.ret (And.intro (.inl rfl) ?_)
  -- result 0
  refine RetD.one ?_
  exact fitR rfl rfl rfl
end Go.Proofs.YtndoigkmdcgjfaaDoor
