/-
  WALKS of the document's sources and of what is left, and of the law BetweenSays.
-/
import Derived.Test.YtndoigkmdcgjfaaDoorQwAv
import Derived.Test.YtndoigkmdcgjfaaDoorQwDo
namespace Go.Proofs.YtndoigkmdcgjfaaDoor
open Go Go.Qw
set_option maxRecDepth 10000
set_option linter.unusedSimpArgs false
set_option linter.unusedVariables false
set_option linter.unusedSectionVars false
set_option maxHeartbeats 2000000


section
variable {P : Int} {A : List Int} {N S : List (List Int)} {f : List Int} {part : Int}
theorem GoodW.tail {a : Int} {v : List Int} (g : GoodW P A N S f part (a :: v)) : GoodW P A N S f part v :=
  ⟨g.m, g.he, g.f, g.part, by have := g.few; rw [List.length_cons] at this; omega, fun i hi => g.w (i + 1) (by rw [List.length_cons]; omega)⟩
theorem drop_one {w : List Int} {i : Nat} (h : i < w.length) : w.drop i = w.getD i 0 :: w.drop (i + 1) := by
  rw [List.drop_eq_getElem_cons h]
  simp [List.getD, h]
theorem GoodW.drop {w : List Int} (g : GoodW P A N S f part w) : ∀ i, GoodW P A N S f part (w.drop i)
  | 0 => by rw [List.drop_zero]; exact g
  | i + 1 => by
    have ih := GoodW.drop g i
    rcases Nat.lt_or_ge i w.length with h | h
    · rw [drop_one h] at ih
      exact ih.tail
    · rw [List.drop_of_length_le (by omega)] at ih ⊢
      exact ih
theorem src_small {w : List Int} (g : GoodW P A N S f part w) : srcN A f part w < 32 := g.src_lt w.length (Nat.le_refl _)
/-- A source is who may act on one. -/
theorem src_bit {a : Int} {v : List Int} (g : GoodW P A N S f part (a :: v)) : (srcN A f part (a :: v)).testBit (A.getD a.toNat 0).toNat = srcOn A f a (srcN A f part v) := by
  have h0 := g.act (i := 0) (by simp)
  have hself := g.f.self (A.getD a.toNat 0).toNat h0.2.2.2.1
  rw [srcN_cons]
  cases hs : srcOn A f a (srcN A f part v) with
  | true => rw [if_pos rfl, Nat.testBit_or, Nat.testBit_two_pow_self, Bool.or_true]
  | false =>
    rw [if_neg (by decide)]
    refine Bool.eq_false_iff.2 fun hb => ?_
    have hz : (f.getD (A.getD a.toNat 0).toNat 0).toNat &&& srcN A f part v = 0 := by
      unfold srcOn at hs
      simpa using hs
    have := congrArg (fun x => Nat.testBit x (A.getD a.toNat 0).toNat) hz
    simp only [Nat.testBit_and, hself, hb, Nat.zero_testBit] at this
    cases this
def keptP (A f : List Int) (part : Int) (w : List Int) : Nat → List Int
  | 0 => []
  | i + 1 => if srcOn A f (w.getD i 0) (srcN A f part (w.drop (i + 1))) = true then keptP A f part w i ++ [w.getD i 0] else keptP A f part w i
theorem kept_len (w : List Int) : ∀ i, (keptP A f part w i).length ≤ i
  | 0 => Nat.le_refl _
  | i + 1 => by
    have := kept_len w i
    unfold keptP
    split
    · rw [List.length_append, List.length_singleton]; omega
    · omega
theorem kept_bet (w : List Int) : ∀ i, i ≤ w.length → keptP A f part w i ++ betL A f part (w.drop i) = betL A f part w
  | 0, _ => rfl
  | i + 1, h => by
    have ih := kept_bet w i (by omega)
    rw [drop_one (show i < w.length by omega), betL_cons] at ih
    rw [keptP]
    split at ih
    · rename_i h1
      rw [if_pos h1, List.append_assoc]; exact ih
    · rename_i h1
      rw [if_neg h1]; exact ih
theorem kept_all (w : List Int) : keptP A f part w w.length = betL A f part w := by
  have h := kept_bet (A := A) (f := f) (part := part) w w.length (Nat.le_refl _)
  rw [List.drop_length] at h
  have e : betL A f part [] = [] := rfl
  rw [e, List.append_nil] at h
  exact h
noncomputable def hpB (P : Int) (A : List Int) (N S : List (List Int)) (f : List Int) (p : Nat) : Bool := (List.range p).all fun q => decide ((alikeL S (q : Int) ((bviewsV P A N S f).getD q []) N.length).length = 0)
theorem hpB_next {p : Nat} : (bif hpB P A N S f p then decide ((alikeL S (p : Int) ((bviewsV P A N S f).getD p []) N.length).length = 0) else false) = hpB P A N S f (p + 1) := by
  unfold hpB
  rw [List.range_succ, List.all_append]
  simp
theorem hpB_nextI {p : Nat} : (bif hpB P A N S f p then decide (((alikeL S (p : Int) ((bviewsV P A N S f).getD p []) N.length).length : Int) = 0) else false) = hpB P A N S f (p + 1) := by
  rw [← hpB_next, decide_eq_decide.2 (show ((alikeL S (p : Int) ((bviewsV P A N S f).getD p []) N.length).length : Int) = 0 ↔ (alikeL S (p : Int) ((bviewsV P A N S f).getD p []) N.length).length = 0 by omega)]
theorem numR_nn {n : Nat} {ρ : Nat → Nat} (i : Nat) : 0 ≤ (numR n ρ).getD i 0 := by
  rcases Nat.lt_or_ge i n with h | h
  · unfold numR numQ
    simp only [List.getD, List.getElem?_map, List.getElem?_range h, Option.map_some, Option.getD_some]
    unfold qIdx
    omega
  · rw [List.getD, List.getElem?_eq_none (by rw [numR_len]; exact h)]
    exact Int.le_refl _
theorem alike_nil {S : List (List Int)} {part : Int} {V : List Int} {n : Nat} : (alikeL S part V n).length = 0 ↔ ∀ s t, s < t → t < n → ¬badV S part V t s := by
  unfold alikeL
  cases h : hO S part V n with
  | none => exact ⟨fun _ => hO_none h, fun _ => rfl⟩
  | some q =>
    obtain ⟨s, t⟩ := q
    have := hO_some h
    exact ⟨fun hh => by simp at hh, fun hh => absurd this.2.2 (hh s t this.1 this.2.1)⟩
open Classical in
theorem hp_holds (he : polE P A N S f = 0) : hpB P A N S f P.toNat = bholdsV P A N S f := by
  have key : hpB P A N S f P.toNat = true ↔ AllSee P A N S f := by
    unfold hpB
    simp only [List.all_eq_true, List.mem_range, decide_eq_true_eq]
    constructor
    · intro h p hp s t hs ht hc
      have h1 := alike_nil.1 (h p hp) t s ht hs
      refine Classical.byContradiction fun hne => h1 ⟨?_, ?_, ?_⟩
      · rw [bviews_get he hp]; exact numR_nn t
      · exact (bviews_eq he hp (by omega) hs).2 hc.symm
      · rw [Int.toNat_natCast]; exact fun e => hne e.symm
    · intro h p hp
      refine alike_nil.2 fun s t hs ht hb => ?_
      obtain ⟨_, h2, h3⟩ := hb
      rw [Int.toNat_natCast] at h3
      exact h3 (h p hp t s ht hs ((bviews_eq he hp (by omega) ht).1 h2).symm).symm
  cases hh : hpB P A N S f P.toNat with
  | true => exact (bholds_yes he (key.1 hh)).symm
  | false =>
    cases hb : bholdsV P A N S f with
    | false => rfl
    | true => rw [key.2 (bholds_is hb)] at hh; cases hh
end

theorem rsrc_step (P : Int) (A : List Int) (N S : List (List Int)) (f : List Int) (part : Int) (w : List Int) (g : GoodW P A N S f part w) (ih : ∀ v : List Int, v.length < w.length → GoodW P A N S f part v → LiftsD Tryd.prog 45 [.agg [.i P, .sl .int A, .sl (.sl .int) N, .sl (.sl .int) S], .sl .int f, .i part, .sl .int v] (.i ((srcN A f part v : Nat) : Int))) : LiftsD Tryd.prog 45 [.agg [.i P, .sl .int A, .sl (.sl .int) N, .sl (.sl .int) S], .sl .int f, .i part, .sl .int w] (.i ((srcN A f part w : Nat) : Int)) := by
  have gp := g.part
  have gP := g.m.parts
  refine LiftsD.of_body 40 [.tmp 8] Tryd.func45 rfl Tryd.ntmps45 (by kernel_rfl) rfl rfl fun w0 X0 => ?_
  refine AWPD.seq fun K1 hK1 => ?_
  -- region 0
  refine AWPD.keep [0, 1, 2, 3] rfl ?_
  refine AWPD.region tabOK rfl ?_
  refine hK1 _ _ ?_
  clear hK1
  refine AWPD.seq fun K2 hK2 => ?_
  refine AWPD.seq fun K3 hK3 => ?_
  -- region 1
  refine AWPD.keep [1, 2, 3, 4] rfl ?_
  refine AWPD.region tabOK rfl ?_
  refine hK3 _ _ ?_
  clear hK3
  first | refine AWPD.condP rfl (fun h0 => ?_) (fun h0 => ?_) | refine AWPD.condN rfl (fun h0 => ?_) (fun h0 => ?_) | refine AWPD.condAP rfl (fun h0 => ?_) (fun h0 => ?_) | refine AWPD.condOP rfl (fun h0 => ?_) (fun h0 => ?_) | refine AWPD.condONN rfl (fun h0 => ?_) (fun h0 => ?_) | refine AWPD.condOPN rfl (fun h0 => ?_) (fun h0 => ?_) | refine AWPD.condA rfl (fun h0 => ?_) (fun h0 => ?_) | refine AWPD.condO rfl (fun h0 => ?_) (fun h0 => ?_) | refine AWPD.cond rfl (fun h0 => ?_) (fun h0 => ?_)
  · try dsimp only [Ty.T] at h0
    try simp only [castL_self] at h0
    try simp only [Int.toNat_natCast] at h0
    try simp only [Int.toNat_zero] at h0
    have hw : w = [] := List.eq_nil_of_length_eq_zero (by omega)
    refine AWPD.seq fun K4 hK4 => ?_
    -- region 2
    refine AWPD.keep [2] rfl ?_
    refine AWPD.region tabOK rfl ?_
    refine Exists.intro _ (Exists.intro _ (And.intro (StepD.call (pow2_fn part (by omega)) rfl rfl rfl) (And.intro rfl (And.intro trivial ?_))))
    refine hK4 _ _ ?_
    clear hK4
    refine AWPD.ret (And.intro (.inl rfl) ?_)
    -- result 0
    refine RetD.one ?_
    exact fitI rfl (by rw [hw, srcN_nil]; rfl)
  · try dsimp only [Ty.T] at h0
    try simp only [castL_self] at h0
    try simp only [Int.toNat_natCast] at h0
    try simp only [Int.toNat_zero] at h0
    obtain ⟨a, v, rfl⟩ : ∃ a v, w = a :: v := by
      cases w with
      | nil => exact absurd rfl h0
      | cons a v => exact ⟨a, v, rfl⟩
    have gv := g.tail
    have ha := g.act (i := 0) (by simp)
    have ha : 0 ≤ a ∧ a.toNat < A.length ∧ 0 ≤ A.getD a.toNat 0 ∧ (A.getD a.toNat 0).toNat < f.length ∧ A.getD a.toNat 0 ≤ 4 ∧ A.length ≤ 6 ∧ f.length ≤ 5 ∧ 0 ≤ f.getD (A.getD a.toNat 0).toNat 0 ∧ f.getD (A.getD a.toNat 0).toNat 0 ≤ 31 := ha
    have hsv := src_small gv
    have hlc : (a :: v).length = v.length + 1 := rfl
    have hz0 : (a :: v).getD 0 0 = a := rfl
    refine AWPD.skip ?_
    refine hK2 _ _ ?_
    clear hK2
    refine AWPD.seq fun K5 hK5 => ?_
    -- region 3
    refine AWPD.keep [1, 2, 3, 4] rfl ?_
    refine AWPD.draw tabOK [] rfl (by kernel_rfl) ?_
    repeat refine And.intro (by first | exact fun h => h | exact fun _ => rfl | (intro h; rw [h]; rfl) | omega | (intros; (try dsimp only [Ty.T, Ty.size]); (try simp only [castL_self, Int.toNat_natCast, Int.toNat_zero, Int.toNat_one, true_and, List.length_append, List.length_set, List.length_drop, List.length_take, List.length_replicate, List.length_cons, List.length_nil, Nat.zero_add, Nat.mul_one]); omega) | decide | (intros; simp_all; done) | (intros; simp_all; omega)) ?_
    refine Exists.intro _ (Exists.intro _ (And.intro (StepD.call (ih v (by rw [hlc]; omega) gv) rfl rfl rfl) (And.intro rfl (And.intro rfl ?_))))
    refine hK5 _ _ ?_
    clear hK5
    refine AWPD.seq fun K6 hK6 => ?_
    -- region 4
    refine AWPD.keep [1, 3, 4, 9] rfl ?_
    refine AWPD.draw tabOK [] rfl (by kernel_rfl) ?_
    repeat refine And.intro (by first | exact fun h => h | exact fun _ => rfl | (intro h; rw [h]; rfl) | omega | (intros; (try dsimp only [Ty.T, Ty.size]); (try simp only [castL_self, Int.toNat_natCast, Int.toNat_zero, Int.toNat_one, true_and, List.length_append, List.length_set, List.length_drop, List.length_take, List.length_replicate, List.length_cons, List.length_nil, Nat.zero_add, Nat.mul_one]); omega) | decide | (intros; simp_all; done) | (intros; simp_all; omega)) ?_
    refine hK6 _ _ ?_
    clear hK6
    refine AWPD.seq fun K7 hK7 => ?_
    refine AWPD.seq fun K8 hK8 => ?_
    -- region 5
    refine AWPD.keep [1, 9, 10] rfl ?_
    refine AWPD.region tabOK rfl ?_
    repeat refine And.intro (by first | exact fun h => h | exact fun _ => rfl | (intro h; rw [h]; rfl) | omega | (intros; (try dsimp only [Ty.T, Ty.size]); (try simp only [castL_self, Int.toNat_natCast, Int.toNat_zero, Int.toNat_one, true_and, List.length_append, List.length_set, List.length_drop, List.length_take, List.length_replicate, List.length_cons, List.length_nil, Nat.zero_add, Nat.mul_one]); omega) | decide | (intros; simp_all; done) | (intros; simp_all; omega)) ?_
    refine Exists.intro _ (Exists.intro _ (And.intro (StepD.call (both_fn (f.getD (A.getD a.toNat 0).toNat 0) ((srcN A f part v : Nat) : Int) (by omega) (by omega)) rfl rfl rfl) (And.intro rfl (And.intro trivial ?_))))
    refine hK8 _ _ ?_
    clear hK8
    first | refine AWPD.condP rfl (fun h1 => ?_) (fun h1 => ?_) | refine AWPD.condN rfl (fun h1 => ?_) (fun h1 => ?_) | refine AWPD.condAP rfl (fun h1 => ?_) (fun h1 => ?_) | refine AWPD.condOP rfl (fun h1 => ?_) (fun h1 => ?_) | refine AWPD.condONN rfl (fun h1 => ?_) (fun h1 => ?_) | refine AWPD.condOPN rfl (fun h1 => ?_) (fun h1 => ?_) | refine AWPD.condA rfl (fun h1 => ?_) (fun h1 => ?_) | refine AWPD.condO rfl (fun h1 => ?_) (fun h1 => ?_) | refine AWPD.cond rfl (fun h1 => ?_) (fun h1 => ?_)
    · try dsimp only [Ty.T] at h1
      try simp only [castL_self] at h1
      try simp only [Int.toNat_natCast] at h1
      try simp only [Int.toNat_zero] at h1
      have hy : srcOn A f a (srcN A f part v) = true := by unfold srcOn; refine decide_eq_true fun hz => h1 ?_; rw [hz]; rfl
      -- region 6
      refine AWPD.keep [9, 10] rfl ?_
      refine AWPD.region tabOK rfl ?_
      refine Exists.intro _ (Exists.intro _ (And.intro (StepD.call (with_fn ((srcN A f part v : Nat) : Int) (A.getD a.toNat 0) (by omega) (by omega)) rfl rfl rfl) (And.intro rfl (And.intro trivial ?_))))
      refine hK7 _ _ ?_
      clear hK7
      refine AWPD.seq fun K9 hK9 => ?_
      -- region 7
      refine AWPD.keep [9] rfl ?_
      refine AWPD.region tabOK rfl ?_
      refine hK9 _ _ ?_
      clear hK9
      refine AWPD.ret (And.intro (.inl rfl) ?_)
      -- result 1
      refine RetD.one ?_
      exact fitI rfl (by rw [srcN_cons, if_pos hy, Int.toNat_natCast])
    · try dsimp only [Ty.T] at h1
      try simp only [castL_self] at h1
      try simp only [Int.toNat_natCast] at h1
      try simp only [Int.toNat_zero] at h1
      have hn : ¬srcOn A f a (srcN A f part v) = true := fun hh => by
        unfold srcOn at hh
        have := of_decide_eq_true hh
        exact h1 fun hz => this (by omega)
      refine AWPD.skip ?_
      refine hK7 _ _ ?_
      clear hK7
      refine AWPD.seq fun K10 hK10 => ?_
      -- region 7
      refine AWPD.keep [9] rfl ?_
      refine AWPD.region tabOK rfl ?_
      refine hK10 _ _ ?_
      clear hK10
      refine AWPD.ret (And.intro (.inl rfl) ?_)
      -- result 2
      refine RetD.one ?_
      exact fitI rfl (by rw [srcN_cons, if_neg hn])

theorem rsrc_all (P : Int) (A : List Int) (N S : List (List Int)) (f : List Int) (part : Int) : ∀ (n : Nat) (w : List Int), w.length ≤ n → GoodW P A N S f part w → LiftsD Tryd.prog 45 [.agg [.i P, .sl .int A, .sl (.sl .int) N, .sl (.sl .int) S], .sl .int f, .i part, .sl .int w] (.i ((srcN A f part w : Nat) : Int))
  | 0, w, hl, g => rsrc_step P A N S f part w g fun v hv _ => by omega
  | n + 1, w, hl, g => rsrc_step P A N S f part w g fun v hv gv => rsrc_all P A N S f part n v (by omega) gv
theorem rsrc_fn (P : Int) (A : List Int) (N S : List (List Int)) (f : List Int) (part : Int) (w : List Int) (g : GoodW P A N S f part w) : LiftsD Tryd.prog 45 [.agg [.i P, .sl .int A, .sl (.sl .int) N, .sl (.sl .int) S], .sl .int f, .i part, .sl .int w] (.i ((srcN A f part w : Nat) : Int)) := rsrc_all P A N S f part w.length w (Nat.le_refl _) g

theorem rpurgeto_fn (P : Int) (A : List Int) (N S : List (List Int)) (f : List Int) (part : Int) (w : List Int) (g : GoodW P A N S f part w) : LiftsD Tryd.prog 46 [.agg [.i P, .sl .int A, .sl (.sl .int) N, .sl (.sl .int) S], .sl .int f, .i part, .sl .int w] (.sl .int (betL A f part w)) := by
  have gp := g.part
  have gP := g.m.parts
  have gw := g.few
  refine LiftsD.of_body 41 [.tmp 8] Tryd.func46 rfl Tryd.ntmps46 (by kernel_rfl) rfl rfl fun w0 X0 => ?_
  refine AWPD.seq fun K1 hK1 => ?_
  -- region 0
  refine AWPD.keep [0, 1, 2, 3] rfl ?_
  refine AWPD.region tabOK rfl ?_
  refine hK1 _ _ ?_
  clear hK1
  refine AWPD.seq fun K2 hK2 => ?_
  -- region 1
  refine AWPD.keep [1, 2, 3, 4] rfl ?_
  refine AWPD.region tabOK rfl ?_
  refine hK2 _ _ ?_
  clear hK2
  refine AWPD.seq fun K3 hK3 => ?_
  refine AWPD.seq fun K4 hK4 => ?_
  -- region 2
  refine AWPD.keep [1, 2, 3, 4, 9] rfl ?_
  refine AWPD.region tabOK rfl ?_
  refine hK4 _ _ ?_
  clear hK4
  refine AWPD.block ?_
  -- LOOP 0 live [1, 2, 3, 4, 9, 10] changed [9, 10]
  refine AWPD.nilRow 9 3 .int rfl (by decide) ?_
  refine AWPD.loopK (σ := Nat) [1, 2, 3, 4] (fun i base => (10, .i (i : Int)) :: (9, .ob 0) :: base) (fun i => [.row 3 .int (keptP A f part w i)]) (fun n i => n + i = w.length) (w.length) 0 [0] rfl rfl (by omega) (by decide) ⟨⟨rfl, rfl, rfl⟩, trivial⟩ (by repeat' first | exact True.intro | exact rfl | exact ⟨rfl, rfl⟩ | refine And.intro ?_ ?_) fun n0 i hI0 => ?_
  have hn0 := hI0
  have hkl := kept_len (A := A) (f := f) (part := part) w i
  refine AWPD.seq fun K5 hK5 => ?_
  refine AWPD.seq fun K6 hK6 => ?_
  -- region 3
  refine AWPD.keep [1, 2, 3, 4, 9, 10] rfl ?_
  refine AWPD.region tabOK rfl ?_
  refine hK6 _ _ ?_
  clear hK6
  first | refine AWPD.condP rfl (fun h0 => ?_) (fun h0 => ?_) | refine AWPD.condN rfl (fun h0 => ?_) (fun h0 => ?_) | refine AWPD.condAP rfl (fun h0 => ?_) (fun h0 => ?_) | refine AWPD.condOP rfl (fun h0 => ?_) (fun h0 => ?_) | refine AWPD.condONN rfl (fun h0 => ?_) (fun h0 => ?_) | refine AWPD.condOPN rfl (fun h0 => ?_) (fun h0 => ?_) | refine AWPD.condA rfl (fun h0 => ?_) (fun h0 => ?_) | refine AWPD.condO rfl (fun h0 => ?_) (fun h0 => ?_) | refine AWPD.cond rfl (fun h0 => ?_) (fun h0 => ?_)
  · try dsimp only [Ty.T] at h0
    try simp only [castL_self] at h0
    try simp only [Int.toNat_natCast] at h0
    try simp only [Int.toNat_zero] at h0
    have hil : i < w.length := by omega
    have ha := g.act (i := i) hil
    have hwi := g.w i hil
    have hai := g.m.acts (w.getD i 0).toNat (by omega)
    have gd := g.drop i
    have hsd := src_small gd
    have hb : (srcN A f part (w.drop i)).testBit (A.getD (w.getD i 0).toNat 0).toNat = srcOn A f (w.getD i 0) (srcN A f part (w.drop (i + 1))) := by
      rw [drop_one hil] at gd ⊢
      exact src_bit gd
    refine AWPD.skip ?_
    refine hK5 _ _ ?_
    clear hK5
    refine AWPD.seq fun K7 hK7 => ?_
    refine AWPD.block ?_
    refine AWPD.seq fun K8 hK8 => ?_
    -- region 5
    refine AWPD.keep [1, 2, 3, 4, 9, 10] rfl ?_
    refine AWPD.draw tabOK [] rfl (by kernel_rfl) ?_
    repeat refine And.intro (by first | exact fun h => h | exact fun _ => rfl | (intro h; rw [h]; rfl) | omega | (intros; (try dsimp only [Ty.T, Ty.size]); (try simp only [castL_self, Int.toNat_natCast, Int.toNat_zero, Int.toNat_one, true_and, List.length_append, List.length_set, List.length_drop, List.length_take, List.length_replicate, List.length_cons, List.length_nil, Nat.zero_add, Nat.mul_one]); omega) | decide | (intros; simp_all; done) | (intros; simp_all; omega)) ?_
    refine Exists.intro _ (Exists.intro _ (And.intro (StepD.call (rsrc_fn P A N S f part (w.drop i) gd) rfl rfl rfl) (And.intro rfl (And.intro rfl ?_))))
    repeat refine And.intro (by first | exact fun h => h | exact fun _ => rfl | (intro h; rw [h]; rfl) | omega | (intros; (try dsimp only [Ty.T, Ty.size]); (try simp only [castL_self, Int.toNat_natCast, Int.toNat_zero, Int.toNat_one, true_and, List.length_append, List.length_set, List.length_drop, List.length_take, List.length_replicate, List.length_cons, List.length_nil, Nat.zero_add, Nat.mul_one]); omega) | decide | (intros; simp_all; done) | (intros; simp_all; omega)) ?_
    refine Exists.intro _ (Exists.intro _ (And.intro (StepD.call (bit_fn ((srcN A f part (w.drop i) : Nat) : Int) (A.getD (w.getD i 0).toNat 0) (by omega) (by omega)) rfl rfl rfl) (And.intro rfl (And.intro rfl ?_))))
    refine hK8 _ _ ?_
    clear hK8
    first | refine AWPD.cond rfl (fun h1 => ?_) (fun h1 => ?_)
    · try dsimp only [Ty.T] at h1
      try simp only [castL_self] at h1
      try simp only [Int.toNat_natCast] at h1
      try simp only [Int.toNat_zero] at h1
      have hy : srcOn A f (w.getD i 0) (srcN A f part (w.drop (i + 1))) = true := hb.symm.trans h1
      -- region 6
      refine AWPD.keep [1, 2, 3, 4, 9, 10] rfl ?_
      refine AWPD.region tabOK rfl ?_
      repeat refine And.intro (by first | exact fun h => h | exact fun _ => rfl | (intro h; rw [h]; rfl) | omega | (intros; (try dsimp only [Ty.T, Ty.size]); (try simp only [castL_self, Int.toNat_natCast, Int.toNat_zero, Int.toNat_one, true_and, List.length_append, List.length_set, List.length_drop, List.length_take, List.length_replicate, List.length_cons, List.length_nil, Nat.zero_add, Nat.mul_one]); omega) | decide | (intros; simp_all; done) | (intros; simp_all; omega)) ?_
      refine hK7 _ _ ?_
      clear hK7
      -- region 4
      refine AWPD.keep [1, 2, 3, 4, 9, 10] rfl ?_
      refine AWPD.region tabOK rfl ?_
      repeat refine And.intro (by first | exact fun h => h | exact fun _ => rfl | (intro h; rw [h]; rfl) | omega | (intros; (try dsimp only [Ty.T, Ty.size]); (try simp only [castL_self, Int.toNat_natCast, Int.toNat_zero, Int.toNat_one, true_and, List.length_append, List.length_set, List.length_drop, List.length_take, List.length_replicate, List.length_cons, List.length_nil, Nat.zero_add, Nat.mul_one]); omega) | decide | (intros; simp_all; done) | (intros; simp_all; omega)) ?_
      refine ⟨n0 - 1, i + 1, [1], by omega, by omega, ⟨by decide, rfl⟩, ⟨⟨rfl, rfl, (by show keptP A f part w i ++ [w.getD i 0] = keptP A f part w (i + 1); rw [keptP, if_pos hy])⟩, trivial⟩, ?_⟩
      repeat' first | exact True.intro | exact rfl | exact ⟨rfl, rfl⟩ | refine And.intro ?_ ?_
    · try dsimp only [Ty.T] at h1
      try simp only [castL_self] at h1
      try simp only [Int.toNat_natCast] at h1
      try simp only [Int.toNat_zero] at h1
      have hn : ¬srcOn A f (w.getD i 0) (srcN A f part (w.drop (i + 1))) = true := by rw [← hb, show (srcN A f part (w.drop i)).testBit (A.getD (w.getD i 0).toNat 0).toNat = false from h1]; decide
      refine AWPD.skip ?_
      refine hK7 _ _ ?_
      clear hK7
      -- region 4
      refine AWPD.keep [1, 2, 3, 4, 9, 10] rfl ?_
      refine AWPD.region tabOK rfl ?_
      repeat refine And.intro (by first | exact fun h => h | exact fun _ => rfl | (intro h; rw [h]; rfl) | omega | (intros; (try dsimp only [Ty.T, Ty.size]); (try simp only [castL_self, Int.toNat_natCast, Int.toNat_zero, Int.toNat_one, true_and, List.length_append, List.length_set, List.length_drop, List.length_take, List.length_replicate, List.length_cons, List.length_nil, Nat.zero_add, Nat.mul_one]); omega) | decide | (intros; simp_all; done) | (intros; simp_all; omega)) ?_
      refine ⟨n0 - 1, i + 1, [0], by omega, by omega, ⟨by decide, rfl⟩, ⟨⟨rfl, rfl, (by show keptP A f part w i = keptP A f part w (i + 1); rw [keptP, if_neg hn])⟩, trivial⟩, ?_⟩
      repeat' first | exact True.intro | exact rfl | exact ⟨rfl, rfl⟩ | refine And.intro ?_ ?_
  · try dsimp only [Ty.T] at h0
    try simp only [castL_self] at h0
    try simp only [Int.toNat_natCast] at h0
    try simp only [Int.toNat_zero] at h0
    refine AWPD.exit ?_
    refine hK3 _ _ ?_
    clear hK3
    refine AWPD.seq fun K9 hK9 => ?_
    -- region 7
    refine AWPD.keep [9] rfl ?_
    refine AWPD.region tabOK rfl ?_
    refine hK9 _ _ ?_
    clear hK9
    refine AWPD.ret (And.intro (.inl rfl) ?_)
    -- result 0
    refine RetD.one ?_
    exact fitR rfl rfl (by rw [show i = w.length by omega, kept_all])
theorem rows_fn (a : List (List Int)) (hl : a.length ≤ 1000000) (hr : ∀ i, i < a.length → (a.getD i []).length ≤ 1000000) : LiftsD Tryd.prog 43 [.sl (.sl .int) a, .sl (.sl .int) a] (.b true) := by
  refine LiftsD.of_body 27 [.tmp 4] Tryd.func43 rfl Tryd.ntmps43 (by kernel_rfl) rfl rfl fun w0 X0 => ?_
  refine AWPD.seq fun K1 hK1 => ?_
  -- region 0
  refine AWPD.keep [0, 1] rfl ?_
  refine AWPD.region tabOK rfl ?_
  refine hK1 _ _ ?_
  clear hK1
  refine AWPD.seq fun K2 hK2 => ?_
  refine AWPD.seq fun K3 hK3 => ?_
  -- region 1
  refine AWPD.keep [0, 1] rfl ?_
  refine AWPD.region tabOK rfl ?_
  refine hK3 _ _ ?_
  clear hK3
  first | refine AWPD.condP rfl (fun h0 => ?_) (fun h0 => ?_) | refine AWPD.condN rfl (fun h0 => ?_) (fun h0 => ?_) | refine AWPD.condAP rfl (fun h0 => ?_) (fun h0 => ?_) | refine AWPD.condOP rfl (fun h0 => ?_) (fun h0 => ?_) | refine AWPD.condONN rfl (fun h0 => ?_) (fun h0 => ?_) | refine AWPD.condOPN rfl (fun h0 => ?_) (fun h0 => ?_) | refine AWPD.condA rfl (fun h0 => ?_) (fun h0 => ?_) | refine AWPD.condO rfl (fun h0 => ?_) (fun h0 => ?_) | refine AWPD.cond rfl (fun h0 => ?_) (fun h0 => ?_)
  · try dsimp only [Ty.T] at h0
    try simp only [castL_self] at h0
    try simp only [Int.toNat_natCast] at h0
    try simp only [Int.toNat_zero] at h0
    exact absurd rfl h0
  · try dsimp only [Ty.T] at h0
    try simp only [castL_self] at h0
    try simp only [Int.toNat_natCast] at h0
    try simp only [Int.toNat_zero] at h0
    refine AWPD.skip ?_
    refine hK2 _ _ ?_
    clear hK2
    refine AWPD.seq fun K4 hK4 => ?_
    refine AWPD.seq fun K5 hK5 => ?_
    -- region 3
    refine AWPD.keep [0, 1] rfl ?_
    refine AWPD.region tabOK rfl ?_
    refine hK5 _ _ ?_
    clear hK5
    refine AWPD.block ?_
    -- LOOP 0 live [0, 1, 5] changed [5]
    refine AWPD.loopK (σ := Nat) [0, 1] (fun i base => (5, .i (i : Int)) :: base) (fun _ => []) (fun n i => n + i = a.length) (a.length) 0 [] rfl rfl (by omega) (by decide) trivial (by repeat' first | exact True.intro | exact rfl | exact ⟨rfl, rfl⟩ | refine And.intro ?_ ?_) fun n0 i hI0 => ?_
    have hn0 := hI0
    refine AWPD.seq fun K6 hK6 => ?_
    refine AWPD.seq fun K7 hK7 => ?_
    -- region 4
    refine AWPD.keep [0, 1, 5] rfl ?_
    refine AWPD.region tabOK rfl ?_
    refine hK7 _ _ ?_
    clear hK7
    first | refine AWPD.condP rfl (fun h1 => ?_) (fun h1 => ?_) | refine AWPD.condN rfl (fun h1 => ?_) (fun h1 => ?_) | refine AWPD.condAP rfl (fun h1 => ?_) (fun h1 => ?_) | refine AWPD.condOP rfl (fun h1 => ?_) (fun h1 => ?_) | refine AWPD.condONN rfl (fun h1 => ?_) (fun h1 => ?_) | refine AWPD.condOPN rfl (fun h1 => ?_) (fun h1 => ?_) | refine AWPD.condA rfl (fun h1 => ?_) (fun h1 => ?_) | refine AWPD.condO rfl (fun h1 => ?_) (fun h1 => ?_) | refine AWPD.cond rfl (fun h1 => ?_) (fun h1 => ?_)
    · try dsimp only [Ty.T] at h1
      try simp only [castL_self] at h1
      try simp only [Int.toNat_natCast] at h1
      try simp only [Int.toNat_zero] at h1
      have hri := hr i (by omega)
      refine AWPD.skip ?_
      refine hK6 _ _ ?_
      clear hK6
      refine AWPD.seq fun K8 hK8 => ?_
      refine AWPD.block ?_
      refine AWPD.seq fun K9 hK9 => ?_
      -- region 6
      refine AWPD.keep [0, 1, 5] rfl ?_
      refine AWPD.draw tabOK [] rfl (by kernel_rfl) ?_
      repeat refine And.intro (by first | exact fun h => h | exact fun _ => rfl | (intro h; rw [h]; rfl) | omega | (intros; (try dsimp only [Ty.T, Ty.size]); (try simp only [castL_self, Int.toNat_natCast, Int.toNat_zero, Int.toNat_one, true_and, List.length_append, List.length_set, List.length_drop, List.length_take, List.length_replicate, List.length_cons, List.length_nil, Nat.zero_add, Nat.mul_one]); omega) | decide | (intros; simp_all; done) | (intros; simp_all; omega)) ?_
      refine Exists.intro _ (Exists.intro _ (And.intro (StepD.call (ints_fn (a.getD i []) (a.getD i []) (by omega)) rfl rfl rfl) (And.intro rfl (And.intro rfl ?_))))
      refine hK9 _ _ ?_
      clear hK9
      first | refine AWPD.cond rfl (fun h2 => ?_) (fun h2 => ?_)
      · try dsimp only [Ty.T] at h2
        try simp only [castL_self] at h2
        try simp only [Int.toNat_natCast] at h2
        try simp only [Int.toNat_zero] at h2
        exfalso; simp at h2
      · try dsimp only [Ty.T] at h2
        try simp only [castL_self] at h2
        try simp only [Int.toNat_natCast] at h2
        try simp only [Int.toNat_zero] at h2
        refine AWPD.skip ?_
        refine hK8 _ _ ?_
        clear hK8
        -- region 5
        refine AWPD.keep [0, 1, 5] rfl ?_
        refine AWPD.region tabOK rfl ?_
        repeat refine And.intro (by first | exact fun h => h | exact fun _ => rfl | (intro h; rw [h]; rfl) | omega | (intros; (try dsimp only [Ty.T, Ty.size]); (try simp only [castL_self, Int.toNat_natCast, Int.toNat_zero, Int.toNat_one, true_and, List.length_append, List.length_set, List.length_drop, List.length_take, List.length_replicate, List.length_cons, List.length_nil, Nat.zero_add, Nat.mul_one]); omega) | decide | (intros; simp_all; done) | (intros; simp_all; omega)) ?_
        refine ⟨n0 - 1, i + 1, [], by omega, by omega, ⟨by decide, rfl⟩, trivial, ?_⟩
        repeat' first | exact True.intro | exact rfl | exact ⟨rfl, rfl⟩ | refine And.intro ?_ ?_
    · try dsimp only [Ty.T] at h1
      try simp only [castL_self] at h1
      try simp only [Int.toNat_natCast] at h1
      try simp only [Int.toNat_zero] at h1
      refine AWPD.exit ?_
      refine hK4 _ _ ?_
      clear hK4
      refine AWPD.seq fun K10 hK10 => ?_
      -- region 8
      refine AWPD.keep [] rfl ?_
      refine AWPD.region tabOK rfl ?_
      refine hK10 _ _ ?_
      clear hK10
      refine AWPD.ret (And.intro (.inl rfl) ?_)
      -- result 0
      refine RetD.one ?_
      exact fitB rfl rfl
theorem betweenSays_fn (P : Int) (A : List Int) (N S : List (List Int)) (f : List Int) (part : Int) (w : List Int) : LiftsG Tryd.prog errG 11 [.agg [.i P, .sl .int A, .sl (.sl .int) N, .sl (.sl .int) S], .sl .int f, .i part, .sl .int w] (.b true) := by
  refine LiftsG.of_body 187 [.tmp 8] Tryd.func11 rfl Tryd.ntmps11 (by kernel_rfl) rfl rfl fun w0 X0 hG0 => ?_
  refine AWPD.seq fun K1 hK1 => ?_
  -- region 0
  refine AWPD.keep [0, 1, 2, 3] rfl ?_
  refine AWPD.region tabOK rfl ?_
  refine hK1 _ _ ?_
  clear hK1
  refine AWPD.seq fun K2 hK2 => ?_
  -- region 1
  refine AWPD.keep [1, 2, 3, 4] rfl ?_
  refine AWPD.region tabOK rfl ?_
  repeat refine And.intro (by first | exact fun h => h | exact fun _ => rfl | (intro h; rw [h]; rfl) | omega | (intros; (try dsimp only [Ty.T, Ty.size]); (try simp only [castL_self, Int.toNat_natCast, Int.toNat_zero, Int.toNat_one, true_and, List.length_append, List.length_set, List.length_drop, List.length_take, List.length_replicate, List.length_cons, List.length_nil, Nat.zero_add, Nat.mul_one]); omega) | decide | (intros; simp_all; done) | (intros; simp_all; omega)) ?_
  refine Exists.intro _ (Exists.intro _ (And.intro (StepD.call (rpol_fn _ _ _ _ _) rfl rfl rfl) (And.intro rfl (And.intro trivial ?_))))
  refine hK2 _ _ ?_
  clear hK2
  refine AWPD.seq fun K3 hK3 => ?_
  -- region 2
  refine AWPD.keep [1, 2, 3, 4, 9] rfl ?_
  refine AWPD.region tabOK rfl ?_
  refine hK3 _ _ ?_
  clear hK3
  refine AWPD.seq fun K4 hK4 => ?_
  -- region 3
  refine AWPD.keep [1, 2, 3, 4, 9, 10] rfl ?_
  refine AWPD.region tabOK rfl ?_
  refine hK4 _ _ ?_
  clear hK4
  refine AWPD.seq fun K5 hK5 => ?_
  refine AWPD.seq fun K6 hK6 => ?_
  -- region 4
  refine AWPD.keep [1, 2, 3, 4, 9, 10, 11] rfl ?_
  refine AWPD.region tabOK rfl ?_
  refine hK6 _ _ ?_
  clear hK6
  first | refine AWPD.condP rfl (fun h0 => ?_) (fun h0 => ?_) | refine AWPD.condN rfl (fun h0 => ?_) (fun h0 => ?_) | refine AWPD.condAP rfl (fun h0 => ?_) (fun h0 => ?_) | refine AWPD.condOP rfl (fun h0 => ?_) (fun h0 => ?_) | refine AWPD.condONN rfl (fun h0 => ?_) (fun h0 => ?_) | refine AWPD.condOPN rfl (fun h0 => ?_) (fun h0 => ?_) | refine AWPD.condA rfl (fun h0 => ?_) (fun h0 => ?_) | refine AWPD.condO rfl (fun h0 => ?_) (fun h0 => ?_) | refine AWPD.cond rfl (fun h0 => ?_) (fun h0 => ?_)
  · try dsimp only [Ty.T] at h0
    try simp only [castL_self] at h0
    try simp only [Int.toNat_natCast] at h0
    try simp only [Int.toNat_zero] at h0
    have he : polE P A N S f = 0 := h0
    obtain ⟨hme, gf⟩ := pol_ok he
    have g := mach_good hme
    have hN := g.few
    have hP := g.parts
    have hvl := bviews_len he
    have hrl : ∀ p, p < P.toNat → ((bviewsV P A N S f).getD p []).length = N.length := fun p hp => by rw [bviews_get he hp, numR_len]
    have hrs : ∀ i, i < (bviewsV P A N S f).length → ((bviewsV P A N S f).getD i []).length ≤ 1000000 := fun i hi => by rw [hrl i (by omega)]; omega
    have hh := hp_holds he
    refine AWPD.seq fun K7 hK7 => ?_
    -- region 5
    refine AWPD.keep [1, 2, 3, 4, 9, 11] rfl ?_
    refine AWPD.region tabOK rfl ?_
    repeat refine And.intro (by first | exact fun h => h | exact fun _ => rfl | (intro h; rw [h]; rfl) | omega | (intros; (try dsimp only [Ty.T, Ty.size]); (try simp only [castL_self, Int.toNat_natCast, Int.toNat_zero, Int.toNat_one, true_and, List.length_append, List.length_set, List.length_drop, List.length_take, List.length_replicate, List.length_cons, List.length_nil, Nat.zero_add, Nat.mul_one]); omega) | decide | (intros; simp_all; done) | (intros; simp_all; omega)) ?_
    refine Exists.intro _ (Exists.intro _ (And.intro (StepD.call (allviews_fn _ _ _ _ _ (by assumption)) rfl rfl rfl) (And.intro rfl (And.intro trivial ?_))))
    refine hK7 _ _ ?_
    clear hK7
    refine AWPD.seq fun K8 hK8 => ?_
    -- region 6
    refine AWPD.keep [1, 2, 3, 4, 9, 10, 11] rfl ?_
    refine AWPD.region tabOK rfl ?_
    refine hK8 _ _ ?_
    clear hK8
    refine AWPD.block ?_
    -- LOOP 0 live [1, 2, 3, 4, 9, 10, 11, 12] changed [11, 12]
    refine AWPD.loopK (σ := Nat) [1, 2, 3, 4, 9, 10] (fun p base => (11, .b (hpB P A N S f p)) :: (12, .i (p : Int)) :: base) (fun _ => []) (fun n p => n + p = P.toNat) (P.toNat) 0 [] rfl rfl (by omega) (by decide) trivial (by repeat' first | (show decide (polE P A N S f = 0) = true; exact decide_eq_true he) | exact True.intro | exact rfl | exact ⟨rfl, rfl⟩ | refine And.intro ?_ ?_) fun n0 p hI0 => ?_
    have hn0 := hI0
    refine AWPD.seq fun K9 hK9 => ?_
    refine AWPD.seq fun K10 hK10 => ?_
    -- region 7
    refine AWPD.keep [1, 2, 3, 4, 9, 10, 11, 12] rfl ?_
    refine AWPD.region tabOK rfl ?_
    repeat refine And.intro (by first | exact fun h => h | exact fun _ => rfl | (intro h; rw [h]; rfl) | omega | (intros; (try dsimp only [Ty.T, Ty.size]); (try simp only [castL_self, Int.toNat_natCast, Int.toNat_zero, Int.toNat_one, true_and, List.length_append, List.length_set, List.length_drop, List.length_take, List.length_replicate, List.length_cons, List.length_nil, Nat.zero_add, Nat.mul_one]); omega) | decide | (intros; simp_all; done) | (intros; simp_all; omega)) ?_
    refine hK10 _ _ ?_
    clear hK10
    first | refine AWPD.condP rfl (fun h1 => ?_) (fun h1 => ?_) | refine AWPD.condN rfl (fun h1 => ?_) (fun h1 => ?_) | refine AWPD.condAP rfl (fun h1 => ?_) (fun h1 => ?_) | refine AWPD.condOP rfl (fun h1 => ?_) (fun h1 => ?_) | refine AWPD.condONN rfl (fun h1 => ?_) (fun h1 => ?_) | refine AWPD.condOPN rfl (fun h1 => ?_) (fun h1 => ?_) | refine AWPD.condA rfl (fun h1 => ?_) (fun h1 => ?_) | refine AWPD.condO rfl (fun h1 => ?_) (fun h1 => ?_) | refine AWPD.cond rfl (fun h1 => ?_) (fun h1 => ?_)
    · try dsimp only [Ty.T] at h1
      try simp only [castL_self] at h1
      try simp only [Int.toNat_natCast] at h1
      try simp only [Int.toNat_zero] at h1
      have hpl : p < P.toNat := by omega
      have hrp := hrl p hpl
      refine AWPD.skip ?_
      refine hK9 _ _ ?_
      clear hK9
      refine AWPD.seq fun K11 hK11 => ?_
      refine AWPD.block ?_
      -- region 9
      have hal := alikeL_len S (p : Int) ((bviewsV P A N S f).getD p []) N.length
      refine AWPD.keep [1, 2, 3, 4, 9, 10, 11, 12] rfl ?_
      refine AWPD.draw tabOK [] rfl (by kernel_rfl) ?_
      repeat refine And.intro (by first | exact fun h => h | exact fun _ => rfl | (intro h; rw [h]; rfl) | omega | (intros; (try dsimp only [Ty.T, Ty.size]); (try simp only [castL_self, Int.toNat_natCast, Int.toNat_zero, Int.toNat_one, true_and, List.length_append, List.length_set, List.length_drop, List.length_take, List.length_replicate, List.length_cons, List.length_nil, Nat.zero_add, Nat.mul_one]); omega) | decide | (intros; simp_all; done) | (intros; simp_all; omega)) ?_
      refine Exists.intro _ (Exists.intro _ (And.intro (fun hg => StepD.call (ralike_fn P A N S ((bviewsV P A N S f).getD p []) (p : Int) g (by omega) hrp) rfl rfl rfl) (And.intro (fun hf => rfl) (And.intro rfl (And.intro rfl ?_)))))
      repeat refine And.intro (by first | exact fun h => h | exact fun _ => rfl | (intro h; rw [h]; rfl) | omega | (intros; (try dsimp only [Ty.T, Ty.size]); (try simp only [castL_self, Int.toNat_natCast, Int.toNat_zero, Int.toNat_one, true_and, List.length_append, List.length_set, List.length_drop, List.length_take, List.length_replicate, List.length_cons, List.length_nil, Nat.zero_add, Nat.mul_one]); omega) | decide | (intros; simp_all; done) | (intros; simp_all; omega)) ?_
      refine hK11 _ _ ?_
      clear hK11
      -- region 8
      refine AWPD.keep [1, 2, 3, 4, 9, 10, 11, 12] rfl ?_
      refine AWPD.region tabOK rfl ?_
      repeat refine And.intro (by first | exact fun h => h | exact fun _ => rfl | (intro h; rw [h]; rfl) | omega | (intros; (try dsimp only [Ty.T, Ty.size]); (try simp only [castL_self, Int.toNat_natCast, Int.toNat_zero, Int.toNat_one, true_and, List.length_append, List.length_set, List.length_drop, List.length_take, List.length_replicate, List.length_cons, List.length_nil, Nat.zero_add, Nat.mul_one]); omega) | decide | (intros; simp_all; done) | (intros; simp_all; omega)) ?_
      refine ⟨n0 - 1, p + 1, [], by omega, by omega, ⟨by decide, rfl⟩, trivial, ?_⟩
      repeat' first | exact hpB_nextI | exact True.intro | exact rfl | exact ⟨rfl, rfl⟩ | refine And.intro ?_ ?_
    · try dsimp only [Ty.T] at h1
      try simp only [castL_self] at h1
      try simp only [Int.toNat_natCast] at h1
      try simp only [Int.toNat_zero] at h1
      have hpe : p = P.toNat := by omega
      subst hpe
      refine AWPD.exit ?_
      refine hK5 _ _ ?_
      clear hK5
      refine AWPD.seq fun K12 hK12 => ?_
      -- region 10
      refine AWPD.keep [1, 2, 3, 4, 9, 10, 11] rfl ?_
      refine AWPD.region tabOK rfl ?_
      repeat refine And.intro (by first | exact fun h => h | exact fun _ => rfl | (intro h; rw [h]; rfl) | omega | (intros; (try dsimp only [Ty.T, Ty.size]); (try simp only [castL_self, Int.toNat_natCast, Int.toNat_zero, Int.toNat_one, true_and, List.length_append, List.length_set, List.length_drop, List.length_take, List.length_replicate, List.length_cons, List.length_nil, Nat.zero_add, Nat.mul_one]); omega) | decide | (intros; simp_all; done) | (intros; simp_all; omega)) ?_
      refine Exists.intro _ (Exists.intro _ (And.intro (StepD.call (bviews_fn _ _ _ _ _) rfl rfl rfl) (And.intro rfl (And.intro trivial ?_))))
      refine hK12 _ _ ?_
      clear hK12
      refine AWPD.seq fun K13 hK13 => ?_
      -- region 11
      try rw [hv0]
      refine AWPD.keep [1, 2, 3, 4, 9, 10, 11, 13, 14] rfl ?_
      refine AWPD.region tabOK rfl ?_
      refine Exists.intro _ (Exists.intro _ (And.intro (StepD.callG errG_stays rfl hG0 (error_fn _ _) rfl rfl rfl) (And.intro rfl (And.intro trivial ?_))))
      repeat refine And.intro (by first | exact fun h => h | exact fun _ => rfl | (intro h; rw [h]; rfl) | omega | (intros; (try dsimp only [Ty.T, Ty.size]); (try simp only [castL_self, Int.toNat_natCast, Int.toNat_zero, Int.toNat_one, true_and, List.length_append, List.length_set, List.length_drop, List.length_take, List.length_replicate, List.length_cons, List.length_nil, Nat.zero_add, Nat.mul_one]); omega) | decide | (intros; simp_all; done) | (intros; simp_all; omega)) ?_
      refine Exists.intro _ (Exists.intro _ (And.intro (fun hg => StepD.call (by first | exact rows_fn _ (by omega) hrs | exact LiftsD.fit (rows_fn [] (by decide) (fun i hi => absurd hi (by simp))) ⟨⟨rfl, rfl⟩, ⟨rfl, by decide⟩, trivial⟩) rfl rfl rfl) (And.intro (fun hf => rfl) (And.intro rfl (And.intro trivial ?_)))))
      repeat refine And.intro (by first | exact fun h => h | exact fun _ => rfl | (intro h; rw [h]; rfl) | omega | (intros; (try dsimp only [Ty.T, Ty.size]); (try simp only [castL_self, Int.toNat_natCast, Int.toNat_zero, Int.toNat_one, true_and, List.length_append, List.length_set, List.length_drop, List.length_take, List.length_replicate, List.length_cons, List.length_nil, Nat.zero_add, Nat.mul_one]); omega) | decide | (intros; simp_all; done) | (intros; simp_all; omega)) ?_
      refine hK13 _ _ ?_
      clear hK13
      refine AWPD.seq fun K14 hK14 => ?_
      -- region 12
      refine AWPD.keep [1, 2, 3, 4, 9, 11, 15] rfl ?_
      refine AWPD.region tabOK rfl ?_
      repeat refine And.intro (by first | exact fun h => h | exact fun _ => rfl | (intro h; rw [h]; rfl) | omega | (intros; (try dsimp only [Ty.T, Ty.size]); (try simp only [castL_self, Int.toNat_natCast, Int.toNat_zero, Int.toNat_one, true_and, List.length_append, List.length_set, List.length_drop, List.length_take, List.length_replicate, List.length_cons, List.length_nil, Nat.zero_add, Nat.mul_one]); omega) | decide | (intros; simp_all; done) | (intros; simp_all; omega)) ?_
      refine Exists.intro _ (Exists.intro _ (And.intro (StepD.call (bholds_fn _ _ _ _ _) rfl rfl rfl) (And.intro rfl (And.intro trivial ?_))))
      refine hK14 _ _ ?_
      clear hK14
      refine AWPD.seq fun K15 hK15 => ?_
      -- region 13
      refine AWPD.keep [1, 2, 3, 4, 9, 11, 14, 15, 16] rfl ?_
      refine AWPD.region tabOK rfl ?_
      refine Exists.intro _ (Exists.intro _ (And.intro (StepD.callG errG_stays rfl hG0 (error_fn _ _) rfl rfl rfl) (And.intro rfl (And.intro trivial ?_))))
      repeat refine And.intro (by first | exact fun h => h | exact fun _ => rfl | (intro h; rw [h]; rfl) | omega | (intros; (try dsimp only [Ty.T, Ty.size]); (try simp only [castL_self, Int.toNat_natCast, Int.toNat_zero, Int.toNat_one, true_and, List.length_append, List.length_set, List.length_drop, List.length_take, List.length_replicate, List.length_cons, List.length_nil, Nat.zero_add, Nat.mul_one]); omega) | decide | (intros; simp_all; done) | (intros; simp_all; omega)) ?_
      refine hK15 _ _ ?_
      clear hK15
      refine AWPD.seq fun K16 hK16 => ?_
      -- region 14
      refine AWPD.keep [1, 2, 3, 4, 15, 17] rfl ?_
      refine AWPD.region tabOK rfl ?_
      repeat refine And.intro (by first | exact fun h => h | exact fun _ => rfl | (intro h; rw [h]; rfl) | omega | (intros; (try dsimp only [Ty.T, Ty.size]); (try simp only [castL_self, Int.toNat_natCast, Int.toNat_zero, Int.toNat_one, true_and, List.length_append, List.length_set, List.length_drop, List.length_take, List.length_replicate, List.length_cons, List.length_nil, Nat.zero_add, Nat.mul_one]); omega) | decide | (intros; simp_all; done) | (intros; simp_all; omega)) ?_
      refine Exists.intro _ (Exists.intro _ (And.intro (StepD.call (rpart_fn _ _ _ _ _ _) rfl rfl rfl) (And.intro rfl (And.intro trivial ?_))))
      refine hK16 _ _ ?_
      clear hK16
      refine AWPD.seq fun K17 hK17 => ?_
      refine AWPD.seq fun K18 hK18 => ?_
      -- region 15
      refine AWPD.keep [1, 2, 3, 4, 9, 15, 17] rfl ?_
      refine AWPD.region tabOK rfl ?_
      refine hK18 _ _ ?_
      clear hK18
      first | refine AWPD.condP rfl (fun h2 => ?_) (fun h2 => ?_) | refine AWPD.condN rfl (fun h2 => ?_) (fun h2 => ?_) | refine AWPD.condAP rfl (fun h2 => ?_) (fun h2 => ?_) | refine AWPD.condOP rfl (fun h2 => ?_) (fun h2 => ?_) | refine AWPD.condONN rfl (fun h2 => ?_) (fun h2 => ?_) | refine AWPD.condOPN rfl (fun h2 => ?_) (fun h2 => ?_) | refine AWPD.condA rfl (fun h2 => ?_) (fun h2 => ?_) | refine AWPD.condO rfl (fun h2 => ?_) (fun h2 => ?_) | refine AWPD.cond rfl (fun h2 => ?_) (fun h2 => ?_)
      · try dsimp only [Ty.T] at h2
        try simp only [castL_self] at h2
        try simp only [Int.toNat_natCast] at h2
        try simp only [Int.toNat_zero] at h2
        try (exact absurd h2 hnc; done)
        all_goals
          have hc : chkE P A N S f part = 0 := h2
          have hbw : bothE P A N S f part w = wordE P A N S w := by unfold bothE; rw [if_neg (fun h => h hc)]
          -- region 16
          refine AWPD.keep [1, 2, 3, 4, 15, 17] rfl ?_
          refine AWPD.region tabOK rfl ?_
          repeat refine And.intro (by first | exact fun h => h | exact fun _ => rfl | (intro h; rw [h]; rfl) | omega | (intros; (try dsimp only [Ty.T, Ty.size]); (try simp only [castL_self, Int.toNat_natCast, Int.toNat_zero, Int.toNat_one, true_and, List.length_append, List.length_set, List.length_drop, List.length_take, List.length_replicate, List.length_cons, List.length_nil, Nat.zero_add, Nat.mul_one]); omega) | decide | (intros; simp_all; done) | (intros; simp_all; omega)) ?_
          refine Exists.intro _ (Exists.intro _ (And.intro (StepD.call (rword_fn _ _ _ _ _) rfl rfl rfl) (And.intro rfl (And.intro trivial ?_))))
          refine hK17 _ _ ?_
          clear hK17
          refine AWPD.seq fun K19 hK19 => ?_
          -- region 17
          refine AWPD.keep [1, 2, 3, 4, 9, 15, 17] rfl ?_
          refine AWPD.region tabOK rfl ?_
          refine hK19 _ _ ?_
          clear hK19
          refine AWPD.seq fun K20 hK20 => ?_
          -- region 18
          refine AWPD.keep [1, 2, 3, 4, 9, 15, 17, 18] rfl ?_
          refine AWPD.region tabOK rfl ?_
          refine hK20 _ _ ?_
          clear hK20
          refine AWPD.seq fun K21 hK21 => ?_
          -- region 19
          refine AWPD.keep [1, 2, 3, 4, 9, 15, 17, 18, 19] rfl ?_
          refine AWPD.region tabOK rfl ?_
          refine hK21 _ _ ?_
          clear hK21
          refine AWPD.seq fun K22 hK22 => ?_
          refine AWPD.seq fun K23 hK23 => ?_
          -- region 20
          refine AWPD.keep [1, 2, 3, 4, 9, 15, 17, 18, 19, 20] rfl ?_
          refine AWPD.region tabOK rfl ?_
          refine hK23 _ _ ?_
          clear hK23
          first | refine AWPD.condP rfl (fun h3 => ?_) (fun h3 => ?_) | refine AWPD.condN rfl (fun h3 => ?_) (fun h3 => ?_) | refine AWPD.condAP rfl (fun h3 => ?_) (fun h3 => ?_) | refine AWPD.condOP rfl (fun h3 => ?_) (fun h3 => ?_) | refine AWPD.condONN rfl (fun h3 => ?_) (fun h3 => ?_) | refine AWPD.condOPN rfl (fun h3 => ?_) (fun h3 => ?_) | refine AWPD.condA rfl (fun h3 => ?_) (fun h3 => ?_) | refine AWPD.condO rfl (fun h3 => ?_) (fun h3 => ?_) | refine AWPD.cond rfl (fun h3 => ?_) (fun h3 => ?_)
          · try dsimp only [Ty.T] at h3
            try simp only [castL_self] at h3
            try simp only [Int.toNat_natCast] at h3
            try simp only [Int.toNat_zero] at h3
            try (exact absurd h3 hnc2; done)
            all_goals
              have hb : bothE P A N S f part w = 0 := hbw.trans h3
              have gw := both_ok hb
              have gpp := gw.part
              have gPP := gw.m.parts
              have gN0 := gw.m.some
              have gN := gw.m.few
              have r1 := gw.run0
              have r2 := gw.run0B
              have hbl := betL_len A f part w
              have hwf := gw.few
              have e1 : runV P A N S 0 w = runN N 0 w w.length := by unfold runV; rw [if_pos r1]
              have e2 : runV P A N S 0 (betL A f part w) = runN N 0 (betL A f part w) (betL A f part w).length := by unfold runV; rw [if_pos r2]
              have i1 := runN_in gw.m (s := 0) (by omega) gw.w w.length (Nat.le_refl _)
              have i2 := runN_in gw.m (s := 0) (by omega) gw.betW (betL A f part w).length (Nat.le_refl _)
              have s1 := gw.m.rowS (runN N 0 w w.length).toNat (by omega)
              have s2 := gw.m.rowS (runN N 0 (betL A f part w) (betL A f part w).length).toNat (by omega)
              have hlS := gw.m.lenS
              have hsv : srcV P A N S f part w = ((srcN A f part w : Nat) : Int) := by unfold srcV; rw [if_pos hb]
              have hbv : betV P A N S f part w = betL A f part w := by unfold betV; rw [if_pos hb]
              have hqv : bquietV P A N S f part w = decide ((S.getD (runN N 0 w w.length).toNat []).getD part.toNat 0 = (S.getD (runN N 0 (betL A f part w) (betL A f part w).length).toNat []).getD part.toNat 0) := by
                unfold bquietV
                rw [e1, e2, Bool.eq_iff_iff, decide_eq_true_eq, decide_eq_true_eq]
                exact ⟨fun h => h.2, fun h => ⟨hb, h⟩⟩
              refine AWPD.seq fun K24 hK24 => ?_
              -- region 21
              refine AWPD.keep [1, 2, 3, 4, 9, 15, 17] rfl ?_
              refine AWPD.region tabOK rfl ?_
              repeat refine And.intro (by first | exact fun h => h | exact fun _ => rfl | (intro h; rw [h]; rfl) | omega | (intros; (try dsimp only [Ty.T, Ty.size]); (try simp only [castL_self, Int.toNat_natCast, Int.toNat_zero, Int.toNat_one, true_and, List.length_append, List.length_set, List.length_drop, List.length_take, List.length_replicate, List.length_cons, List.length_nil, Nat.zero_add, Nat.mul_one]); omega) | decide | (intros; simp_all; done) | (intros; simp_all; omega)) ?_
              refine Exists.intro _ (Exists.intro _ (And.intro (StepD.call (rsrc_fn P A N S f part w gw) rfl rfl rfl) (And.intro rfl (And.intro trivial ?_))))
              refine hK24 _ _ ?_
              clear hK24
              refine AWPD.seq fun K25 hK25 => ?_
              -- region 22
              refine AWPD.keep [1, 2, 3, 4, 9, 15, 17, 18] rfl ?_
              refine AWPD.region tabOK rfl ?_
              repeat refine And.intro (by first | exact fun h => h | exact fun _ => rfl | (intro h; rw [h]; rfl) | omega | (intros; (try dsimp only [Ty.T, Ty.size]); (try simp only [castL_self, Int.toNat_natCast, Int.toNat_zero, Int.toNat_one, true_and, List.length_append, List.length_set, List.length_drop, List.length_take, List.length_replicate, List.length_cons, List.length_nil, Nat.zero_add, Nat.mul_one]); omega) | decide | (intros; simp_all; done) | (intros; simp_all; omega)) ?_
              refine Exists.intro _ (Exists.intro _ (And.intro (StepD.call (rpurgeto_fn P A N S f part w gw) rfl rfl rfl) (And.intro rfl (And.intro trivial ?_))))
              refine hK25 _ _ ?_
              clear hK25
              refine AWPD.seq fun K26 hK26 => ?_
              -- region 23
              refine AWPD.keep [1, 2, 3, 4, 9, 15, 17, 18, 19] rfl ?_
              refine AWPD.region tabOK rfl ?_
              repeat refine And.intro (by first | exact fun h => h | exact fun _ => rfl | (intro h; rw [h]; rfl) | omega | (intros; (try dsimp only [Ty.T, Ty.size]); (try simp only [castL_self, Int.toNat_natCast, Int.toNat_zero, Int.toNat_one, true_and, List.length_append, List.length_set, List.length_drop, List.length_take, List.length_replicate, List.length_cons, List.length_nil, Nat.zero_add, Nat.mul_one]); omega) | decide | (intros; simp_all; done) | (intros; simp_all; omega)) ?_
              refine Exists.intro _ (Exists.intro _ (And.intro (StepD.call (rrun_fn P A N S 0 w r1) rfl rfl rfl) (And.intro rfl (And.intro trivial ?_))))
              refine hK26 _ _ ?_
              clear hK26
              refine AWPD.seq fun K27 hK27 => ?_
              -- region 24
              refine AWPD.keep [1, 2, 3, 4, 9, 15, 17, 18, 19, 21] rfl ?_
              refine AWPD.region tabOK rfl ?_
              repeat refine And.intro (by first | exact fun h => h | exact fun _ => rfl | (intro h; rw [h]; rfl) | omega | (intros; (try dsimp only [Ty.T, Ty.size]); (try simp only [castL_self, Int.toNat_natCast, Int.toNat_zero, Int.toNat_one, true_and, List.length_append, List.length_set, List.length_drop, List.length_take, List.length_replicate, List.length_cons, List.length_nil, Nat.zero_add, Nat.mul_one]); omega) | decide | (intros; simp_all; done) | (intros; simp_all; omega)) ?_
              refine Exists.intro _ (Exists.intro _ (And.intro (StepD.call (rrun_fn P A N S 0 (betL A f part w) r2) rfl rfl rfl) (And.intro rfl (And.intro trivial ?_))))
              refine hK27 _ _ ?_
              clear hK27
              -- region 25
              refine AWPD.keep [1, 2, 3, 4, 9, 15, 17, 18, 19, 21, 22] rfl ?_
              refine AWPD.draw tabOK [] rfl (by kernel_rfl) ?_
              repeat refine And.intro (by first | exact fun h => h | exact fun _ => rfl | (intro h; rw [h]; rfl) | omega | (intros; (try dsimp only [Ty.T, Ty.size]); (try simp only [castL_self, Int.toNat_natCast, Int.toNat_zero, Int.toNat_one, true_and, List.length_append, List.length_set, List.length_drop, List.length_take, List.length_replicate, List.length_cons, List.length_nil, Nat.zero_add, Nat.mul_one]); omega) | decide | (intros; simp_all; done) | (intros; simp_all; omega)) ?_
              refine hK22 _ _ ?_
              clear hK22
              refine AWPD.seq fun K28 hK28 => ?_
              -- region 26
              refine AWPD.keep [1, 2, 3, 4, 9, 15, 17, 18, 19, 20] rfl ?_
              refine AWPD.region tabOK rfl ?_
              repeat refine And.intro (by first | exact fun h => h | exact fun _ => rfl | (intro h; rw [h]; rfl) | omega | (intros; (try dsimp only [Ty.T, Ty.size]); (try simp only [castL_self, Int.toNat_natCast, Int.toNat_zero, Int.toNat_one, true_and, List.length_append, List.length_set, List.length_drop, List.length_take, List.length_replicate, List.length_cons, List.length_nil, Nat.zero_add, Nat.mul_one]); omega) | decide | (intros; simp_all; done) | (intros; simp_all; omega)) ?_
              refine Exists.intro _ (Exists.intro _ (And.intro (StepD.call (bsources_fn _ _ _ _ _ _ _) rfl rfl rfl) (And.intro rfl (And.intro trivial ?_))))
              refine hK28 _ _ ?_
              clear hK28
              refine AWPD.seq fun K29 hK29 => ?_
              -- region 27
              try rw [hsv]
              refine AWPD.keep [1, 2, 3, 4, 9, 14, 15, 17, 18, 19, 20, 23] rfl ?_
              refine AWPD.region tabOK rfl ?_
              refine Exists.intro _ (Exists.intro _ (And.intro (StepD.callG errG_stays rfl hG0 (error_fn _ _) rfl rfl rfl) (And.intro rfl (And.intro trivial ?_))))
              repeat refine And.intro (by first | exact fun h => h | exact fun _ => rfl | (intro h; rw [h]; rfl) | omega | (intros; (try dsimp only [Ty.T, Ty.size]); (try simp only [castL_self, Int.toNat_natCast, Int.toNat_zero, Int.toNat_one, true_and, List.length_append, List.length_set, List.length_drop, List.length_take, List.length_replicate, List.length_cons, List.length_nil, Nat.zero_add, Nat.mul_one]); omega) | decide | (intros; simp_all; done) | (intros; simp_all; omega)) ?_
              refine hK29 _ _ ?_
              clear hK29
              refine AWPD.seq fun K30 hK30 => ?_
              -- region 28
              refine AWPD.keep [1, 2, 3, 4, 9, 15, 17, 19, 20, 24] rfl ?_
              refine AWPD.region tabOK rfl ?_
              repeat refine And.intro (by first | exact fun h => h | exact fun _ => rfl | (intro h; rw [h]; rfl) | omega | (intros; (try dsimp only [Ty.T, Ty.size]); (try simp only [castL_self, Int.toNat_natCast, Int.toNat_zero, Int.toNat_one, true_and, List.length_append, List.length_set, List.length_drop, List.length_take, List.length_replicate, List.length_cons, List.length_nil, Nat.zero_add, Nat.mul_one]); omega) | decide | (intros; simp_all; done) | (intros; simp_all; omega)) ?_
              refine Exists.intro _ (Exists.intro _ (And.intro (StepD.call (bpurge_fn _ _ _ _ _ _ _) rfl rfl rfl) (And.intro rfl (And.intro trivial ?_))))
              refine hK30 _ _ ?_
              clear hK30
              refine AWPD.seq fun K31 hK31 => ?_
              -- region 29
              try rw [hbv]
              refine AWPD.keep [1, 2, 3, 4, 9, 14, 15, 17, 19, 20, 24, 25] rfl ?_
              refine AWPD.region tabOK rfl ?_
              refine Exists.intro _ (Exists.intro _ (And.intro (StepD.callG errG_stays rfl hG0 (error_fn _ _) rfl rfl rfl) (And.intro rfl (And.intro trivial ?_))))
              repeat refine And.intro (by first | exact fun h => h | exact fun _ => rfl | (intro h; rw [h]; rfl) | omega | (intros; (try dsimp only [Ty.T, Ty.size]); (try simp only [castL_self, Int.toNat_natCast, Int.toNat_zero, Int.toNat_one, true_and, List.length_append, List.length_set, List.length_drop, List.length_take, List.length_replicate, List.length_cons, List.length_nil, Nat.zero_add, Nat.mul_one]); omega) | decide | (intros; simp_all; done) | (intros; simp_all; omega)) ?_
              refine Exists.intro _ (Exists.intro _ (And.intro (fun hg => StepD.call (by first | exact ints_fn _ _ (by omega) | exact LiftsD.fit (ints_fn [] [] (by decide)) ⟨⟨rfl, rfl⟩, ⟨rfl, by decide⟩, trivial⟩) rfl rfl rfl) (And.intro (fun hf => rfl) (And.intro rfl (And.intro trivial ?_)))))
              repeat refine And.intro (by first | exact fun h => h | exact fun _ => rfl | (intro h; rw [h]; rfl) | omega | (intros; (try dsimp only [Ty.T, Ty.size]); (try simp only [castL_self, Int.toNat_natCast, Int.toNat_zero, Int.toNat_one, true_and, List.length_append, List.length_set, List.length_drop, List.length_take, List.length_replicate, List.length_cons, List.length_nil, Nat.zero_add, Nat.mul_one]); omega) | decide | (intros; simp_all; done) | (intros; simp_all; omega)) ?_
              refine hK31 _ _ ?_
              clear hK31
              refine AWPD.seq fun K32 hK32 => ?_
              -- region 30
              refine AWPD.keep [1, 2, 3, 4, 9, 15, 17, 20, 24, 26] rfl ?_
              refine AWPD.region tabOK rfl ?_
              repeat refine And.intro (by first | exact fun h => h | exact fun _ => rfl | (intro h; rw [h]; rfl) | omega | (intros; (try dsimp only [Ty.T, Ty.size]); (try simp only [castL_self, Int.toNat_natCast, Int.toNat_zero, Int.toNat_one, true_and, List.length_append, List.length_set, List.length_drop, List.length_take, List.length_replicate, List.length_cons, List.length_nil, Nat.zero_add, Nat.mul_one]); omega) | decide | (intros; simp_all; done) | (intros; simp_all; omega)) ?_
              refine Exists.intro _ (Exists.intro _ (And.intro (StepD.call (bquiet_fn _ _ _ _ _ _ _) rfl rfl rfl) (And.intro rfl (And.intro trivial ?_))))
              refine hK32 _ _ ?_
              clear hK32
              refine AWPD.seq fun K33 hK33 => ?_
              -- region 31
              refine AWPD.keep [9, 14, 15, 16, 17, 20, 24, 26] rfl ?_
              refine AWPD.region tabOK rfl ?_
              repeat refine And.intro (by first | exact fun h => h | exact fun _ => rfl | (intro h; rw [h]; rfl) | omega | (intros; (try dsimp only [Ty.T, Ty.size]); (try simp only [castL_self, Int.toNat_natCast, Int.toNat_zero, Int.toNat_one, true_and, List.length_append, List.length_set, List.length_drop, List.length_take, List.length_replicate, List.length_cons, List.length_nil, Nat.zero_add, Nat.mul_one]); omega) | decide | (intros; simp_all; done) | (intros; simp_all; omega)) ?_
              refine Exists.intro _ (Exists.intro _ (And.intro (fun hg => StepD.callG errG_stays rfl hG0 (error_fn _ _) rfl rfl rfl) (And.intro (fun hf => rfl) (And.intro rfl (And.intro trivial ?_)))))
              repeat refine And.intro (by first | exact fun h => h | exact fun _ => rfl | (intro h; rw [h]; rfl) | omega | (intros; (try dsimp only [Ty.T, Ty.size]); (try simp only [castL_self, Int.toNat_natCast, Int.toNat_zero, Int.toNat_one, true_and, List.length_append, List.length_set, List.length_drop, List.length_take, List.length_replicate, List.length_cons, List.length_nil, Nat.zero_add, Nat.mul_one]); omega) | decide | (intros; simp_all; done) | (intros; simp_all; omega)) ?_
              refine hK33 _ _ ?_
              clear hK33
              refine AWPD.ret (And.intro (.inl rfl) ?_)
              -- result 0
              refine RetD.one ?_
              refine fitB rfl ?_
              simp [*]
          · try dsimp only [Ty.T] at h3
            try simp only [castL_self] at h3
            try simp only [Int.toNat_natCast] at h3
            try simp only [Int.toNat_zero] at h3
            have hnb : ¬bothE P A N S f part w = 0 := by rw [hbw]; exact h3
            have hsv : srcV P A N S f part w = 0 := by unfold srcV; rw [if_neg hnb]
            have hbv : betV P A N S f part w = [] := by unfold betV; rw [if_neg hnb]
            have hqv : bquietV P A N S f part w = false := by unfold bquietV; rw [decide_eq_false (fun h => hnb h.1)]
            refine AWPD.skip ?_
            refine hK22 _ _ ?_
            clear hK22
            refine AWPD.seq fun K34 hK34 => ?_
            -- region 26
            refine AWPD.keep [1, 2, 3, 4, 9, 15, 17, 18, 19, 20] rfl ?_
            refine AWPD.region tabOK rfl ?_
            repeat refine And.intro (by first | exact fun h => h | exact fun _ => rfl | (intro h; rw [h]; rfl) | omega | (intros; (try dsimp only [Ty.T, Ty.size]); (try simp only [castL_self, Int.toNat_natCast, Int.toNat_zero, Int.toNat_one, true_and, List.length_append, List.length_set, List.length_drop, List.length_take, List.length_replicate, List.length_cons, List.length_nil, Nat.zero_add, Nat.mul_one]); omega) | decide | (intros; simp_all; done) | (intros; simp_all; omega)) ?_
            refine Exists.intro _ (Exists.intro _ (And.intro (StepD.call (bsources_fn _ _ _ _ _ _ _) rfl rfl rfl) (And.intro rfl (And.intro trivial ?_))))
            refine hK34 _ _ ?_
            clear hK34
            refine AWPD.seq fun K35 hK35 => ?_
            -- region 27
            try rw [hsv]
            refine AWPD.keep [1, 2, 3, 4, 9, 14, 15, 17, 18, 19, 20, 23] rfl ?_
            refine AWPD.region tabOK rfl ?_
            refine Exists.intro _ (Exists.intro _ (And.intro (StepD.callG errG_stays rfl hG0 (error_fn _ _) rfl rfl rfl) (And.intro rfl (And.intro trivial ?_))))
            repeat refine And.intro (by first | exact fun h => h | exact fun _ => rfl | (intro h; rw [h]; rfl) | omega | (intros; (try dsimp only [Ty.T, Ty.size]); (try simp only [castL_self, Int.toNat_natCast, Int.toNat_zero, Int.toNat_one, true_and, List.length_append, List.length_set, List.length_drop, List.length_take, List.length_replicate, List.length_cons, List.length_nil, Nat.zero_add, Nat.mul_one]); omega) | decide | (intros; simp_all; done) | (intros; simp_all; omega)) ?_
            refine hK35 _ _ ?_
            clear hK35
            refine AWPD.seq fun K36 hK36 => ?_
            -- region 28
            refine AWPD.keep [1, 2, 3, 4, 9, 15, 17, 19, 20, 24] rfl ?_
            refine AWPD.region tabOK rfl ?_
            repeat refine And.intro (by first | exact fun h => h | exact fun _ => rfl | (intro h; rw [h]; rfl) | omega | (intros; (try dsimp only [Ty.T, Ty.size]); (try simp only [castL_self, Int.toNat_natCast, Int.toNat_zero, Int.toNat_one, true_and, List.length_append, List.length_set, List.length_drop, List.length_take, List.length_replicate, List.length_cons, List.length_nil, Nat.zero_add, Nat.mul_one]); omega) | decide | (intros; simp_all; done) | (intros; simp_all; omega)) ?_
            refine Exists.intro _ (Exists.intro _ (And.intro (StepD.call (bpurge_fn _ _ _ _ _ _ _) rfl rfl rfl) (And.intro rfl (And.intro trivial ?_))))
            refine hK36 _ _ ?_
            clear hK36
            refine AWPD.seq fun K37 hK37 => ?_
            -- region 29
            try rw [hbv]
            refine AWPD.keep [1, 2, 3, 4, 9, 14, 15, 17, 19, 20, 24, 25] rfl ?_
            refine AWPD.region tabOK rfl ?_
            refine Exists.intro _ (Exists.intro _ (And.intro (StepD.callG errG_stays rfl hG0 (error_fn _ _) rfl rfl rfl) (And.intro rfl (And.intro trivial ?_))))
            repeat refine And.intro (by first | exact fun h => h | exact fun _ => rfl | (intro h; rw [h]; rfl) | omega | (intros; (try dsimp only [Ty.T, Ty.size]); (try simp only [castL_self, Int.toNat_natCast, Int.toNat_zero, Int.toNat_one, true_and, List.length_append, List.length_set, List.length_drop, List.length_take, List.length_replicate, List.length_cons, List.length_nil, Nat.zero_add, Nat.mul_one]); omega) | decide | (intros; simp_all; done) | (intros; simp_all; omega)) ?_
            refine Exists.intro _ (Exists.intro _ (And.intro (fun hg => StepD.call (by first | exact ints_fn _ _ (by omega) | exact LiftsD.fit (ints_fn [] [] (by decide)) ⟨⟨rfl, rfl⟩, ⟨rfl, by decide⟩, trivial⟩) rfl rfl rfl) (And.intro (fun hf => rfl) (And.intro rfl (And.intro trivial ?_)))))
            repeat refine And.intro (by first | exact fun h => h | exact fun _ => rfl | (intro h; rw [h]; rfl) | omega | (intros; (try dsimp only [Ty.T, Ty.size]); (try simp only [castL_self, Int.toNat_natCast, Int.toNat_zero, Int.toNat_one, true_and, List.length_append, List.length_set, List.length_drop, List.length_take, List.length_replicate, List.length_cons, List.length_nil, Nat.zero_add, Nat.mul_one]); omega) | decide | (intros; simp_all; done) | (intros; simp_all; omega)) ?_
            refine hK37 _ _ ?_
            clear hK37
            refine AWPD.seq fun K38 hK38 => ?_
            -- region 30
            refine AWPD.keep [1, 2, 3, 4, 9, 15, 17, 20, 24, 26] rfl ?_
            refine AWPD.region tabOK rfl ?_
            repeat refine And.intro (by first | exact fun h => h | exact fun _ => rfl | (intro h; rw [h]; rfl) | omega | (intros; (try dsimp only [Ty.T, Ty.size]); (try simp only [castL_self, Int.toNat_natCast, Int.toNat_zero, Int.toNat_one, true_and, List.length_append, List.length_set, List.length_drop, List.length_take, List.length_replicate, List.length_cons, List.length_nil, Nat.zero_add, Nat.mul_one]); omega) | decide | (intros; simp_all; done) | (intros; simp_all; omega)) ?_
            refine Exists.intro _ (Exists.intro _ (And.intro (StepD.call (bquiet_fn _ _ _ _ _ _ _) rfl rfl rfl) (And.intro rfl (And.intro trivial ?_))))
            refine hK38 _ _ ?_
            clear hK38
            refine AWPD.seq fun K39 hK39 => ?_
            -- region 31
            refine AWPD.keep [9, 14, 15, 16, 17, 20, 24, 26] rfl ?_
            refine AWPD.region tabOK rfl ?_
            repeat refine And.intro (by first | exact fun h => h | exact fun _ => rfl | (intro h; rw [h]; rfl) | omega | (intros; (try dsimp only [Ty.T, Ty.size]); (try simp only [castL_self, Int.toNat_natCast, Int.toNat_zero, Int.toNat_one, true_and, List.length_append, List.length_set, List.length_drop, List.length_take, List.length_replicate, List.length_cons, List.length_nil, Nat.zero_add, Nat.mul_one]); omega) | decide | (intros; simp_all; done) | (intros; simp_all; omega)) ?_
            refine Exists.intro _ (Exists.intro _ (And.intro (fun hg => StepD.callG errG_stays rfl hG0 (error_fn _ _) rfl rfl rfl) (And.intro (fun hf => rfl) (And.intro rfl (And.intro trivial ?_)))))
            repeat refine And.intro (by first | exact fun h => h | exact fun _ => rfl | (intro h; rw [h]; rfl) | omega | (intros; (try dsimp only [Ty.T, Ty.size]); (try simp only [castL_self, Int.toNat_natCast, Int.toNat_zero, Int.toNat_one, true_and, List.length_append, List.length_set, List.length_drop, List.length_take, List.length_replicate, List.length_cons, List.length_nil, Nat.zero_add, Nat.mul_one]); omega) | decide | (intros; simp_all; done) | (intros; simp_all; omega)) ?_
            refine hK39 _ _ ?_
            clear hK39
            refine AWPD.ret (And.intro (.inl rfl) ?_)
            -- result 1
            refine RetD.one ?_
            refine fitB rfl ?_
            simp [*]
      · try dsimp only [Ty.T] at h2
        try simp only [castL_self] at h2
        try simp only [Int.toNat_natCast] at h2
        try simp only [Int.toNat_zero] at h2
        have hnc2 : ¬chkE P A N S f part = 0 := h2
        have hbw : bothE P A N S f part w = chkE P A N S f part := by unfold bothE; rw [if_pos hnc2]
        refine AWPD.skip ?_
        refine hK17 _ _ ?_
        clear hK17
        refine AWPD.seq fun K40 hK40 => ?_
        -- region 17
        refine AWPD.keep [1, 2, 3, 4, 9, 15, 17] rfl ?_
        refine AWPD.region tabOK rfl ?_
        refine hK40 _ _ ?_
        clear hK40
        refine AWPD.seq fun K41 hK41 => ?_
        -- region 18
        refine AWPD.keep [1, 2, 3, 4, 9, 15, 17, 18] rfl ?_
        refine AWPD.region tabOK rfl ?_
        refine hK41 _ _ ?_
        clear hK41
        refine AWPD.seq fun K42 hK42 => ?_
        -- region 19
        refine AWPD.keep [1, 2, 3, 4, 9, 15, 17, 18, 19] rfl ?_
        refine AWPD.region tabOK rfl ?_
        refine hK42 _ _ ?_
        clear hK42
        refine AWPD.seq fun K43 hK43 => ?_
        refine AWPD.seq fun K44 hK44 => ?_
        -- region 20
        refine AWPD.keep [1, 2, 3, 4, 9, 15, 17, 18, 19, 20] rfl ?_
        refine AWPD.region tabOK rfl ?_
        refine hK44 _ _ ?_
        clear hK44
        first | refine AWPD.condP rfl (fun h3 => ?_) (fun h3 => ?_) | refine AWPD.condN rfl (fun h3 => ?_) (fun h3 => ?_) | refine AWPD.condAP rfl (fun h3 => ?_) (fun h3 => ?_) | refine AWPD.condOP rfl (fun h3 => ?_) (fun h3 => ?_) | refine AWPD.condONN rfl (fun h3 => ?_) (fun h3 => ?_) | refine AWPD.condOPN rfl (fun h3 => ?_) (fun h3 => ?_) | refine AWPD.condA rfl (fun h3 => ?_) (fun h3 => ?_) | refine AWPD.condO rfl (fun h3 => ?_) (fun h3 => ?_) | refine AWPD.cond rfl (fun h3 => ?_) (fun h3 => ?_)
        · try dsimp only [Ty.T] at h3
          try simp only [castL_self] at h3
          try simp only [Int.toNat_natCast] at h3
          try simp only [Int.toNat_zero] at h3
          try (exact absurd h3 hnc2; done)
          all_goals
            have hb : bothE P A N S f part w = 0 := hbw.trans h3
            have gw := both_ok hb
            have gpp := gw.part
            have gPP := gw.m.parts
            have gN0 := gw.m.some
            have gN := gw.m.few
            have r1 := gw.run0
            have r2 := gw.run0B
            have hbl := betL_len A f part w
            have hwf := gw.few
            have e1 : runV P A N S 0 w = runN N 0 w w.length := by unfold runV; rw [if_pos r1]
            have e2 : runV P A N S 0 (betL A f part w) = runN N 0 (betL A f part w) (betL A f part w).length := by unfold runV; rw [if_pos r2]
            have i1 := runN_in gw.m (s := 0) (by omega) gw.w w.length (Nat.le_refl _)
            have i2 := runN_in gw.m (s := 0) (by omega) gw.betW (betL A f part w).length (Nat.le_refl _)
            have s1 := gw.m.rowS (runN N 0 w w.length).toNat (by omega)
            have s2 := gw.m.rowS (runN N 0 (betL A f part w) (betL A f part w).length).toNat (by omega)
            have hlS := gw.m.lenS
            have hsv : srcV P A N S f part w = ((srcN A f part w : Nat) : Int) := by unfold srcV; rw [if_pos hb]
            have hbv : betV P A N S f part w = betL A f part w := by unfold betV; rw [if_pos hb]
            have hqv : bquietV P A N S f part w = decide ((S.getD (runN N 0 w w.length).toNat []).getD part.toNat 0 = (S.getD (runN N 0 (betL A f part w) (betL A f part w).length).toNat []).getD part.toNat 0) := by
              unfold bquietV
              rw [e1, e2, Bool.eq_iff_iff, decide_eq_true_eq, decide_eq_true_eq]
              exact ⟨fun h => h.2, fun h => ⟨hb, h⟩⟩
            refine AWPD.seq fun K45 hK45 => ?_
            -- region 21
            refine AWPD.keep [1, 2, 3, 4, 9, 15, 17] rfl ?_
            refine AWPD.region tabOK rfl ?_
            repeat refine And.intro (by first | exact fun h => h | exact fun _ => rfl | (intro h; rw [h]; rfl) | omega | (intros; (try dsimp only [Ty.T, Ty.size]); (try simp only [castL_self, Int.toNat_natCast, Int.toNat_zero, Int.toNat_one, true_and, List.length_append, List.length_set, List.length_drop, List.length_take, List.length_replicate, List.length_cons, List.length_nil, Nat.zero_add, Nat.mul_one]); omega) | decide | (intros; simp_all; done) | (intros; simp_all; omega)) ?_
            refine Exists.intro _ (Exists.intro _ (And.intro (StepD.call (rsrc_fn P A N S f part w gw) rfl rfl rfl) (And.intro rfl (And.intro trivial ?_))))
            refine hK45 _ _ ?_
            clear hK45
            refine AWPD.seq fun K46 hK46 => ?_
            -- region 22
            refine AWPD.keep [1, 2, 3, 4, 9, 15, 17, 18] rfl ?_
            refine AWPD.region tabOK rfl ?_
            repeat refine And.intro (by first | exact fun h => h | exact fun _ => rfl | (intro h; rw [h]; rfl) | omega | (intros; (try dsimp only [Ty.T, Ty.size]); (try simp only [castL_self, Int.toNat_natCast, Int.toNat_zero, Int.toNat_one, true_and, List.length_append, List.length_set, List.length_drop, List.length_take, List.length_replicate, List.length_cons, List.length_nil, Nat.zero_add, Nat.mul_one]); omega) | decide | (intros; simp_all; done) | (intros; simp_all; omega)) ?_
            refine Exists.intro _ (Exists.intro _ (And.intro (StepD.call (rpurgeto_fn P A N S f part w gw) rfl rfl rfl) (And.intro rfl (And.intro trivial ?_))))
            refine hK46 _ _ ?_
            clear hK46
            refine AWPD.seq fun K47 hK47 => ?_
            -- region 23
            refine AWPD.keep [1, 2, 3, 4, 9, 15, 17, 18, 19] rfl ?_
            refine AWPD.region tabOK rfl ?_
            repeat refine And.intro (by first | exact fun h => h | exact fun _ => rfl | (intro h; rw [h]; rfl) | omega | (intros; (try dsimp only [Ty.T, Ty.size]); (try simp only [castL_self, Int.toNat_natCast, Int.toNat_zero, Int.toNat_one, true_and, List.length_append, List.length_set, List.length_drop, List.length_take, List.length_replicate, List.length_cons, List.length_nil, Nat.zero_add, Nat.mul_one]); omega) | decide | (intros; simp_all; done) | (intros; simp_all; omega)) ?_
            refine Exists.intro _ (Exists.intro _ (And.intro (StepD.call (rrun_fn P A N S 0 w r1) rfl rfl rfl) (And.intro rfl (And.intro trivial ?_))))
            refine hK47 _ _ ?_
            clear hK47
            refine AWPD.seq fun K48 hK48 => ?_
            -- region 24
            refine AWPD.keep [1, 2, 3, 4, 9, 15, 17, 18, 19, 21] rfl ?_
            refine AWPD.region tabOK rfl ?_
            repeat refine And.intro (by first | exact fun h => h | exact fun _ => rfl | (intro h; rw [h]; rfl) | omega | (intros; (try dsimp only [Ty.T, Ty.size]); (try simp only [castL_self, Int.toNat_natCast, Int.toNat_zero, Int.toNat_one, true_and, List.length_append, List.length_set, List.length_drop, List.length_take, List.length_replicate, List.length_cons, List.length_nil, Nat.zero_add, Nat.mul_one]); omega) | decide | (intros; simp_all; done) | (intros; simp_all; omega)) ?_
            refine Exists.intro _ (Exists.intro _ (And.intro (StepD.call (rrun_fn P A N S 0 (betL A f part w) r2) rfl rfl rfl) (And.intro rfl (And.intro trivial ?_))))
            refine hK48 _ _ ?_
            clear hK48
            -- region 25
            refine AWPD.keep [1, 2, 3, 4, 9, 15, 17, 18, 19, 21, 22] rfl ?_
            refine AWPD.draw tabOK [] rfl (by kernel_rfl) ?_
            repeat refine And.intro (by first | exact fun h => h | exact fun _ => rfl | (intro h; rw [h]; rfl) | omega | (intros; (try dsimp only [Ty.T, Ty.size]); (try simp only [castL_self, Int.toNat_natCast, Int.toNat_zero, Int.toNat_one, true_and, List.length_append, List.length_set, List.length_drop, List.length_take, List.length_replicate, List.length_cons, List.length_nil, Nat.zero_add, Nat.mul_one]); omega) | decide | (intros; simp_all; done) | (intros; simp_all; omega)) ?_
            refine hK43 _ _ ?_
            clear hK43
            refine AWPD.seq fun K49 hK49 => ?_
            -- region 26
            refine AWPD.keep [1, 2, 3, 4, 9, 15, 17, 18, 19, 20] rfl ?_
            refine AWPD.region tabOK rfl ?_
            repeat refine And.intro (by first | exact fun h => h | exact fun _ => rfl | (intro h; rw [h]; rfl) | omega | (intros; (try dsimp only [Ty.T, Ty.size]); (try simp only [castL_self, Int.toNat_natCast, Int.toNat_zero, Int.toNat_one, true_and, List.length_append, List.length_set, List.length_drop, List.length_take, List.length_replicate, List.length_cons, List.length_nil, Nat.zero_add, Nat.mul_one]); omega) | decide | (intros; simp_all; done) | (intros; simp_all; omega)) ?_
            refine Exists.intro _ (Exists.intro _ (And.intro (StepD.call (bsources_fn _ _ _ _ _ _ _) rfl rfl rfl) (And.intro rfl (And.intro trivial ?_))))
            refine hK49 _ _ ?_
            clear hK49
            refine AWPD.seq fun K50 hK50 => ?_
            -- region 27
            try rw [hsv]
            refine AWPD.keep [1, 2, 3, 4, 9, 14, 15, 17, 18, 19, 20, 23] rfl ?_
            refine AWPD.region tabOK rfl ?_
            refine Exists.intro _ (Exists.intro _ (And.intro (StepD.callG errG_stays rfl hG0 (error_fn _ _) rfl rfl rfl) (And.intro rfl (And.intro trivial ?_))))
            repeat refine And.intro (by first | exact fun h => h | exact fun _ => rfl | (intro h; rw [h]; rfl) | omega | (intros; (try dsimp only [Ty.T, Ty.size]); (try simp only [castL_self, Int.toNat_natCast, Int.toNat_zero, Int.toNat_one, true_and, List.length_append, List.length_set, List.length_drop, List.length_take, List.length_replicate, List.length_cons, List.length_nil, Nat.zero_add, Nat.mul_one]); omega) | decide | (intros; simp_all; done) | (intros; simp_all; omega)) ?_
            refine hK50 _ _ ?_
            clear hK50
            refine AWPD.seq fun K51 hK51 => ?_
            -- region 28
            refine AWPD.keep [1, 2, 3, 4, 9, 15, 17, 19, 20, 24] rfl ?_
            refine AWPD.region tabOK rfl ?_
            repeat refine And.intro (by first | exact fun h => h | exact fun _ => rfl | (intro h; rw [h]; rfl) | omega | (intros; (try dsimp only [Ty.T, Ty.size]); (try simp only [castL_self, Int.toNat_natCast, Int.toNat_zero, Int.toNat_one, true_and, List.length_append, List.length_set, List.length_drop, List.length_take, List.length_replicate, List.length_cons, List.length_nil, Nat.zero_add, Nat.mul_one]); omega) | decide | (intros; simp_all; done) | (intros; simp_all; omega)) ?_
            refine Exists.intro _ (Exists.intro _ (And.intro (StepD.call (bpurge_fn _ _ _ _ _ _ _) rfl rfl rfl) (And.intro rfl (And.intro trivial ?_))))
            refine hK51 _ _ ?_
            clear hK51
            refine AWPD.seq fun K52 hK52 => ?_
            -- region 29
            try rw [hbv]
            refine AWPD.keep [1, 2, 3, 4, 9, 14, 15, 17, 19, 20, 24, 25] rfl ?_
            refine AWPD.region tabOK rfl ?_
            refine Exists.intro _ (Exists.intro _ (And.intro (StepD.callG errG_stays rfl hG0 (error_fn _ _) rfl rfl rfl) (And.intro rfl (And.intro trivial ?_))))
            repeat refine And.intro (by first | exact fun h => h | exact fun _ => rfl | (intro h; rw [h]; rfl) | omega | (intros; (try dsimp only [Ty.T, Ty.size]); (try simp only [castL_self, Int.toNat_natCast, Int.toNat_zero, Int.toNat_one, true_and, List.length_append, List.length_set, List.length_drop, List.length_take, List.length_replicate, List.length_cons, List.length_nil, Nat.zero_add, Nat.mul_one]); omega) | decide | (intros; simp_all; done) | (intros; simp_all; omega)) ?_
            refine Exists.intro _ (Exists.intro _ (And.intro (fun hg => StepD.call (by first | exact ints_fn _ _ (by omega) | exact LiftsD.fit (ints_fn [] [] (by decide)) ⟨⟨rfl, rfl⟩, ⟨rfl, by decide⟩, trivial⟩) rfl rfl rfl) (And.intro (fun hf => rfl) (And.intro rfl (And.intro trivial ?_)))))
            repeat refine And.intro (by first | exact fun h => h | exact fun _ => rfl | (intro h; rw [h]; rfl) | omega | (intros; (try dsimp only [Ty.T, Ty.size]); (try simp only [castL_self, Int.toNat_natCast, Int.toNat_zero, Int.toNat_one, true_and, List.length_append, List.length_set, List.length_drop, List.length_take, List.length_replicate, List.length_cons, List.length_nil, Nat.zero_add, Nat.mul_one]); omega) | decide | (intros; simp_all; done) | (intros; simp_all; omega)) ?_
            refine hK52 _ _ ?_
            clear hK52
            refine AWPD.seq fun K53 hK53 => ?_
            -- region 30
            refine AWPD.keep [1, 2, 3, 4, 9, 15, 17, 20, 24, 26] rfl ?_
            refine AWPD.region tabOK rfl ?_
            repeat refine And.intro (by first | exact fun h => h | exact fun _ => rfl | (intro h; rw [h]; rfl) | omega | (intros; (try dsimp only [Ty.T, Ty.size]); (try simp only [castL_self, Int.toNat_natCast, Int.toNat_zero, Int.toNat_one, true_and, List.length_append, List.length_set, List.length_drop, List.length_take, List.length_replicate, List.length_cons, List.length_nil, Nat.zero_add, Nat.mul_one]); omega) | decide | (intros; simp_all; done) | (intros; simp_all; omega)) ?_
            refine Exists.intro _ (Exists.intro _ (And.intro (StepD.call (bquiet_fn _ _ _ _ _ _ _) rfl rfl rfl) (And.intro rfl (And.intro trivial ?_))))
            refine hK53 _ _ ?_
            clear hK53
            refine AWPD.seq fun K54 hK54 => ?_
            -- region 31
            refine AWPD.keep [9, 14, 15, 16, 17, 20, 24, 26] rfl ?_
            refine AWPD.region tabOK rfl ?_
            repeat refine And.intro (by first | exact fun h => h | exact fun _ => rfl | (intro h; rw [h]; rfl) | omega | (intros; (try dsimp only [Ty.T, Ty.size]); (try simp only [castL_self, Int.toNat_natCast, Int.toNat_zero, Int.toNat_one, true_and, List.length_append, List.length_set, List.length_drop, List.length_take, List.length_replicate, List.length_cons, List.length_nil, Nat.zero_add, Nat.mul_one]); omega) | decide | (intros; simp_all; done) | (intros; simp_all; omega)) ?_
            refine Exists.intro _ (Exists.intro _ (And.intro (fun hg => StepD.callG errG_stays rfl hG0 (error_fn _ _) rfl rfl rfl) (And.intro (fun hf => rfl) (And.intro rfl (And.intro trivial ?_)))))
            repeat refine And.intro (by first | exact fun h => h | exact fun _ => rfl | (intro h; rw [h]; rfl) | omega | (intros; (try dsimp only [Ty.T, Ty.size]); (try simp only [castL_self, Int.toNat_natCast, Int.toNat_zero, Int.toNat_one, true_and, List.length_append, List.length_set, List.length_drop, List.length_take, List.length_replicate, List.length_cons, List.length_nil, Nat.zero_add, Nat.mul_one]); omega) | decide | (intros; simp_all; done) | (intros; simp_all; omega)) ?_
            refine hK54 _ _ ?_
            clear hK54
            refine AWPD.ret (And.intro (.inl rfl) ?_)
            -- result 2
            refine RetD.one ?_
            refine fitB rfl ?_
            simp [*]
        · try dsimp only [Ty.T] at h3
          try simp only [castL_self] at h3
          try simp only [Int.toNat_natCast] at h3
          try simp only [Int.toNat_zero] at h3
          have hnb : ¬bothE P A N S f part w = 0 := by rw [hbw]; exact h3
          have hsv : srcV P A N S f part w = 0 := by unfold srcV; rw [if_neg hnb]
          have hbv : betV P A N S f part w = [] := by unfold betV; rw [if_neg hnb]
          have hqv : bquietV P A N S f part w = false := by unfold bquietV; rw [decide_eq_false (fun h => hnb h.1)]
          refine AWPD.skip ?_
          refine hK43 _ _ ?_
          clear hK43
          refine AWPD.seq fun K55 hK55 => ?_
          -- region 26
          refine AWPD.keep [1, 2, 3, 4, 9, 15, 17, 18, 19, 20] rfl ?_
          refine AWPD.region tabOK rfl ?_
          repeat refine And.intro (by first | exact fun h => h | exact fun _ => rfl | (intro h; rw [h]; rfl) | omega | (intros; (try dsimp only [Ty.T, Ty.size]); (try simp only [castL_self, Int.toNat_natCast, Int.toNat_zero, Int.toNat_one, true_and, List.length_append, List.length_set, List.length_drop, List.length_take, List.length_replicate, List.length_cons, List.length_nil, Nat.zero_add, Nat.mul_one]); omega) | decide | (intros; simp_all; done) | (intros; simp_all; omega)) ?_
          refine Exists.intro _ (Exists.intro _ (And.intro (StepD.call (bsources_fn _ _ _ _ _ _ _) rfl rfl rfl) (And.intro rfl (And.intro trivial ?_))))
          refine hK55 _ _ ?_
          clear hK55
          refine AWPD.seq fun K56 hK56 => ?_
          -- region 27
          try rw [hsv]
          refine AWPD.keep [1, 2, 3, 4, 9, 14, 15, 17, 18, 19, 20, 23] rfl ?_
          refine AWPD.region tabOK rfl ?_
          refine Exists.intro _ (Exists.intro _ (And.intro (StepD.callG errG_stays rfl hG0 (error_fn _ _) rfl rfl rfl) (And.intro rfl (And.intro trivial ?_))))
          repeat refine And.intro (by first | exact fun h => h | exact fun _ => rfl | (intro h; rw [h]; rfl) | omega | (intros; (try dsimp only [Ty.T, Ty.size]); (try simp only [castL_self, Int.toNat_natCast, Int.toNat_zero, Int.toNat_one, true_and, List.length_append, List.length_set, List.length_drop, List.length_take, List.length_replicate, List.length_cons, List.length_nil, Nat.zero_add, Nat.mul_one]); omega) | decide | (intros; simp_all; done) | (intros; simp_all; omega)) ?_
          refine hK56 _ _ ?_
          clear hK56
          refine AWPD.seq fun K57 hK57 => ?_
          -- region 28
          refine AWPD.keep [1, 2, 3, 4, 9, 15, 17, 19, 20, 24] rfl ?_
          refine AWPD.region tabOK rfl ?_
          repeat refine And.intro (by first | exact fun h => h | exact fun _ => rfl | (intro h; rw [h]; rfl) | omega | (intros; (try dsimp only [Ty.T, Ty.size]); (try simp only [castL_self, Int.toNat_natCast, Int.toNat_zero, Int.toNat_one, true_and, List.length_append, List.length_set, List.length_drop, List.length_take, List.length_replicate, List.length_cons, List.length_nil, Nat.zero_add, Nat.mul_one]); omega) | decide | (intros; simp_all; done) | (intros; simp_all; omega)) ?_
          refine Exists.intro _ (Exists.intro _ (And.intro (StepD.call (bpurge_fn _ _ _ _ _ _ _) rfl rfl rfl) (And.intro rfl (And.intro trivial ?_))))
          refine hK57 _ _ ?_
          clear hK57
          refine AWPD.seq fun K58 hK58 => ?_
          -- region 29
          try rw [hbv]
          refine AWPD.keep [1, 2, 3, 4, 9, 14, 15, 17, 19, 20, 24, 25] rfl ?_
          refine AWPD.region tabOK rfl ?_
          refine Exists.intro _ (Exists.intro _ (And.intro (StepD.callG errG_stays rfl hG0 (error_fn _ _) rfl rfl rfl) (And.intro rfl (And.intro trivial ?_))))
          repeat refine And.intro (by first | exact fun h => h | exact fun _ => rfl | (intro h; rw [h]; rfl) | omega | (intros; (try dsimp only [Ty.T, Ty.size]); (try simp only [castL_self, Int.toNat_natCast, Int.toNat_zero, Int.toNat_one, true_and, List.length_append, List.length_set, List.length_drop, List.length_take, List.length_replicate, List.length_cons, List.length_nil, Nat.zero_add, Nat.mul_one]); omega) | decide | (intros; simp_all; done) | (intros; simp_all; omega)) ?_
          refine Exists.intro _ (Exists.intro _ (And.intro (fun hg => StepD.call (by first | exact ints_fn _ _ (by omega) | exact LiftsD.fit (ints_fn [] [] (by decide)) ⟨⟨rfl, rfl⟩, ⟨rfl, by decide⟩, trivial⟩) rfl rfl rfl) (And.intro (fun hf => rfl) (And.intro rfl (And.intro trivial ?_)))))
          repeat refine And.intro (by first | exact fun h => h | exact fun _ => rfl | (intro h; rw [h]; rfl) | omega | (intros; (try dsimp only [Ty.T, Ty.size]); (try simp only [castL_self, Int.toNat_natCast, Int.toNat_zero, Int.toNat_one, true_and, List.length_append, List.length_set, List.length_drop, List.length_take, List.length_replicate, List.length_cons, List.length_nil, Nat.zero_add, Nat.mul_one]); omega) | decide | (intros; simp_all; done) | (intros; simp_all; omega)) ?_
          refine hK58 _ _ ?_
          clear hK58
          refine AWPD.seq fun K59 hK59 => ?_
          -- region 30
          refine AWPD.keep [1, 2, 3, 4, 9, 15, 17, 20, 24, 26] rfl ?_
          refine AWPD.region tabOK rfl ?_
          repeat refine And.intro (by first | exact fun h => h | exact fun _ => rfl | (intro h; rw [h]; rfl) | omega | (intros; (try dsimp only [Ty.T, Ty.size]); (try simp only [castL_self, Int.toNat_natCast, Int.toNat_zero, Int.toNat_one, true_and, List.length_append, List.length_set, List.length_drop, List.length_take, List.length_replicate, List.length_cons, List.length_nil, Nat.zero_add, Nat.mul_one]); omega) | decide | (intros; simp_all; done) | (intros; simp_all; omega)) ?_
          refine Exists.intro _ (Exists.intro _ (And.intro (StepD.call (bquiet_fn _ _ _ _ _ _ _) rfl rfl rfl) (And.intro rfl (And.intro trivial ?_))))
          refine hK59 _ _ ?_
          clear hK59
          refine AWPD.seq fun K60 hK60 => ?_
          -- region 31
          refine AWPD.keep [9, 14, 15, 16, 17, 20, 24, 26] rfl ?_
          refine AWPD.region tabOK rfl ?_
          repeat refine And.intro (by first | exact fun h => h | exact fun _ => rfl | (intro h; rw [h]; rfl) | omega | (intros; (try dsimp only [Ty.T, Ty.size]); (try simp only [castL_self, Int.toNat_natCast, Int.toNat_zero, Int.toNat_one, true_and, List.length_append, List.length_set, List.length_drop, List.length_take, List.length_replicate, List.length_cons, List.length_nil, Nat.zero_add, Nat.mul_one]); omega) | decide | (intros; simp_all; done) | (intros; simp_all; omega)) ?_
          refine Exists.intro _ (Exists.intro _ (And.intro (fun hg => StepD.callG errG_stays rfl hG0 (error_fn _ _) rfl rfl rfl) (And.intro (fun hf => rfl) (And.intro rfl (And.intro trivial ?_)))))
          repeat refine And.intro (by first | exact fun h => h | exact fun _ => rfl | (intro h; rw [h]; rfl) | omega | (intros; (try dsimp only [Ty.T, Ty.size]); (try simp only [castL_self, Int.toNat_natCast, Int.toNat_zero, Int.toNat_one, true_and, List.length_append, List.length_set, List.length_drop, List.length_take, List.length_replicate, List.length_cons, List.length_nil, Nat.zero_add, Nat.mul_one]); omega) | decide | (intros; simp_all; done) | (intros; simp_all; omega)) ?_
          refine hK60 _ _ ?_
          clear hK60
          refine AWPD.ret (And.intro (.inl rfl) ?_)
          -- result 3
          refine RetD.one ?_
          refine fitB rfl ?_
          simp [*]
  · try dsimp only [Ty.T] at h0
    try simp only [castL_self] at h0
    try simp only [Int.toNat_natCast] at h0
    try simp only [Int.toNat_zero] at h0
    have hne : ¬polE P A N S f = 0 := h0
    have hv0 : bviewsV P A N S f = [] := by unfold bviewsV; rw [if_neg hne]
    have hh0 : bholdsV P A N S f = false := bholds_err hne
    have hnc : ¬chkE P A N S f part = 0 := fun hc => hne (chk_ok hc).1
    refine AWPD.skip ?_
    refine hK5 _ _ ?_
    clear hK5
    refine AWPD.seq fun K61 hK61 => ?_
    -- region 10
    refine AWPD.keep [1, 2, 3, 4, 9, 10, 11] rfl ?_
    refine AWPD.region tabOK rfl ?_
    repeat refine And.intro (by first | exact fun h => h | exact fun _ => rfl | (intro h; rw [h]; rfl) | omega | (intros; (try dsimp only [Ty.T, Ty.size]); (try simp only [castL_self, Int.toNat_natCast, Int.toNat_zero, Int.toNat_one, true_and, List.length_append, List.length_set, List.length_drop, List.length_take, List.length_replicate, List.length_cons, List.length_nil, Nat.zero_add, Nat.mul_one]); omega) | decide | (intros; simp_all; done) | (intros; simp_all; omega)) ?_
    refine Exists.intro _ (Exists.intro _ (And.intro (StepD.call (bviews_fn _ _ _ _ _) rfl rfl rfl) (And.intro rfl (And.intro trivial ?_))))
    refine hK61 _ _ ?_
    clear hK61
    refine AWPD.seq fun K62 hK62 => ?_
    -- region 11
    try rw [hv0]
    refine AWPD.keep [1, 2, 3, 4, 9, 10, 11, 13, 14] rfl ?_
    refine AWPD.region tabOK rfl ?_
    refine Exists.intro _ (Exists.intro _ (And.intro (StepD.callG errG_stays rfl hG0 (error_fn _ _) rfl rfl rfl) (And.intro rfl (And.intro trivial ?_))))
    repeat refine And.intro (by first | exact fun h => h | exact fun _ => rfl | (intro h; rw [h]; rfl) | omega | (intros; (try dsimp only [Ty.T, Ty.size]); (try simp only [castL_self, Int.toNat_natCast, Int.toNat_zero, Int.toNat_one, true_and, List.length_append, List.length_set, List.length_drop, List.length_take, List.length_replicate, List.length_cons, List.length_nil, Nat.zero_add, Nat.mul_one]); omega) | decide | (intros; simp_all; done) | (intros; simp_all; omega)) ?_
    refine Exists.intro _ (Exists.intro _ (And.intro (fun hg => StepD.call (by first | exact rows_fn _ (by omega) hrs | exact LiftsD.fit (rows_fn [] (by decide) (fun i hi => absurd hi (by simp))) ⟨⟨rfl, rfl⟩, ⟨rfl, by decide⟩, trivial⟩) rfl rfl rfl) (And.intro (fun hf => rfl) (And.intro rfl (And.intro trivial ?_)))))
    repeat refine And.intro (by first | exact fun h => h | exact fun _ => rfl | (intro h; rw [h]; rfl) | omega | (intros; (try dsimp only [Ty.T, Ty.size]); (try simp only [castL_self, Int.toNat_natCast, Int.toNat_zero, Int.toNat_one, true_and, List.length_append, List.length_set, List.length_drop, List.length_take, List.length_replicate, List.length_cons, List.length_nil, Nat.zero_add, Nat.mul_one]); omega) | decide | (intros; simp_all; done) | (intros; simp_all; omega)) ?_
    refine hK62 _ _ ?_
    clear hK62
    refine AWPD.seq fun K63 hK63 => ?_
    -- region 12
    refine AWPD.keep [1, 2, 3, 4, 9, 11, 15] rfl ?_
    refine AWPD.region tabOK rfl ?_
    repeat refine And.intro (by first | exact fun h => h | exact fun _ => rfl | (intro h; rw [h]; rfl) | omega | (intros; (try dsimp only [Ty.T, Ty.size]); (try simp only [castL_self, Int.toNat_natCast, Int.toNat_zero, Int.toNat_one, true_and, List.length_append, List.length_set, List.length_drop, List.length_take, List.length_replicate, List.length_cons, List.length_nil, Nat.zero_add, Nat.mul_one]); omega) | decide | (intros; simp_all; done) | (intros; simp_all; omega)) ?_
    refine Exists.intro _ (Exists.intro _ (And.intro (StepD.call (bholds_fn _ _ _ _ _) rfl rfl rfl) (And.intro rfl (And.intro trivial ?_))))
    refine hK63 _ _ ?_
    clear hK63
    refine AWPD.seq fun K64 hK64 => ?_
    -- region 13
    refine AWPD.keep [1, 2, 3, 4, 9, 11, 14, 15, 16] rfl ?_
    refine AWPD.region tabOK rfl ?_
    refine Exists.intro _ (Exists.intro _ (And.intro (StepD.callG errG_stays rfl hG0 (error_fn _ _) rfl rfl rfl) (And.intro rfl (And.intro trivial ?_))))
    repeat refine And.intro (by first | exact fun h => h | exact fun _ => rfl | (intro h; rw [h]; rfl) | omega | (intros; (try dsimp only [Ty.T, Ty.size]); (try simp only [castL_self, Int.toNat_natCast, Int.toNat_zero, Int.toNat_one, true_and, List.length_append, List.length_set, List.length_drop, List.length_take, List.length_replicate, List.length_cons, List.length_nil, Nat.zero_add, Nat.mul_one]); omega) | decide | (intros; simp_all; done) | (intros; simp_all; omega)) ?_
    refine hK64 _ _ ?_
    clear hK64
    refine AWPD.seq fun K65 hK65 => ?_
    -- region 14
    refine AWPD.keep [1, 2, 3, 4, 15, 17] rfl ?_
    refine AWPD.region tabOK rfl ?_
    repeat refine And.intro (by first | exact fun h => h | exact fun _ => rfl | (intro h; rw [h]; rfl) | omega | (intros; (try dsimp only [Ty.T, Ty.size]); (try simp only [castL_self, Int.toNat_natCast, Int.toNat_zero, Int.toNat_one, true_and, List.length_append, List.length_set, List.length_drop, List.length_take, List.length_replicate, List.length_cons, List.length_nil, Nat.zero_add, Nat.mul_one]); omega) | decide | (intros; simp_all; done) | (intros; simp_all; omega)) ?_
    refine Exists.intro _ (Exists.intro _ (And.intro (StepD.call (rpart_fn _ _ _ _ _ _) rfl rfl rfl) (And.intro rfl (And.intro trivial ?_))))
    refine hK65 _ _ ?_
    clear hK65
    refine AWPD.seq fun K66 hK66 => ?_
    refine AWPD.seq fun K67 hK67 => ?_
    -- region 15
    refine AWPD.keep [1, 2, 3, 4, 9, 15, 17] rfl ?_
    refine AWPD.region tabOK rfl ?_
    refine hK67 _ _ ?_
    clear hK67
    first | refine AWPD.condP rfl (fun h2 => ?_) (fun h2 => ?_) | refine AWPD.condN rfl (fun h2 => ?_) (fun h2 => ?_) | refine AWPD.condAP rfl (fun h2 => ?_) (fun h2 => ?_) | refine AWPD.condOP rfl (fun h2 => ?_) (fun h2 => ?_) | refine AWPD.condONN rfl (fun h2 => ?_) (fun h2 => ?_) | refine AWPD.condOPN rfl (fun h2 => ?_) (fun h2 => ?_) | refine AWPD.condA rfl (fun h2 => ?_) (fun h2 => ?_) | refine AWPD.condO rfl (fun h2 => ?_) (fun h2 => ?_) | refine AWPD.cond rfl (fun h2 => ?_) (fun h2 => ?_)
    · try dsimp only [Ty.T] at h2
      try simp only [castL_self] at h2
      try simp only [Int.toNat_natCast] at h2
      try simp only [Int.toNat_zero] at h2
      try (exact absurd h2 hnc; done)
      all_goals
        have hc : chkE P A N S f part = 0 := h2
        have hbw : bothE P A N S f part w = wordE P A N S w := by unfold bothE; rw [if_neg (fun h => h hc)]
        -- region 16
        refine AWPD.keep [1, 2, 3, 4, 15, 17] rfl ?_
        refine AWPD.region tabOK rfl ?_
        repeat refine And.intro (by first | exact fun h => h | exact fun _ => rfl | (intro h; rw [h]; rfl) | omega | (intros; (try dsimp only [Ty.T, Ty.size]); (try simp only [castL_self, Int.toNat_natCast, Int.toNat_zero, Int.toNat_one, true_and, List.length_append, List.length_set, List.length_drop, List.length_take, List.length_replicate, List.length_cons, List.length_nil, Nat.zero_add, Nat.mul_one]); omega) | decide | (intros; simp_all; done) | (intros; simp_all; omega)) ?_
        refine Exists.intro _ (Exists.intro _ (And.intro (StepD.call (rword_fn _ _ _ _ _) rfl rfl rfl) (And.intro rfl (And.intro trivial ?_))))
        refine hK66 _ _ ?_
        clear hK66
        refine AWPD.seq fun K68 hK68 => ?_
        -- region 17
        refine AWPD.keep [1, 2, 3, 4, 9, 15, 17] rfl ?_
        refine AWPD.region tabOK rfl ?_
        refine hK68 _ _ ?_
        clear hK68
        refine AWPD.seq fun K69 hK69 => ?_
        -- region 18
        refine AWPD.keep [1, 2, 3, 4, 9, 15, 17, 18] rfl ?_
        refine AWPD.region tabOK rfl ?_
        refine hK69 _ _ ?_
        clear hK69
        refine AWPD.seq fun K70 hK70 => ?_
        -- region 19
        refine AWPD.keep [1, 2, 3, 4, 9, 15, 17, 18, 19] rfl ?_
        refine AWPD.region tabOK rfl ?_
        refine hK70 _ _ ?_
        clear hK70
        refine AWPD.seq fun K71 hK71 => ?_
        refine AWPD.seq fun K72 hK72 => ?_
        -- region 20
        refine AWPD.keep [1, 2, 3, 4, 9, 15, 17, 18, 19, 20] rfl ?_
        refine AWPD.region tabOK rfl ?_
        refine hK72 _ _ ?_
        clear hK72
        first | refine AWPD.condP rfl (fun h3 => ?_) (fun h3 => ?_) | refine AWPD.condN rfl (fun h3 => ?_) (fun h3 => ?_) | refine AWPD.condAP rfl (fun h3 => ?_) (fun h3 => ?_) | refine AWPD.condOP rfl (fun h3 => ?_) (fun h3 => ?_) | refine AWPD.condONN rfl (fun h3 => ?_) (fun h3 => ?_) | refine AWPD.condOPN rfl (fun h3 => ?_) (fun h3 => ?_) | refine AWPD.condA rfl (fun h3 => ?_) (fun h3 => ?_) | refine AWPD.condO rfl (fun h3 => ?_) (fun h3 => ?_) | refine AWPD.cond rfl (fun h3 => ?_) (fun h3 => ?_)
        · try dsimp only [Ty.T] at h3
          try simp only [castL_self] at h3
          try simp only [Int.toNat_natCast] at h3
          try simp only [Int.toNat_zero] at h3
          try (exact absurd h3 hnc2; done)
          all_goals
            have hb : bothE P A N S f part w = 0 := hbw.trans h3
            have gw := both_ok hb
            have gpp := gw.part
            have gPP := gw.m.parts
            have gN0 := gw.m.some
            have gN := gw.m.few
            have r1 := gw.run0
            have r2 := gw.run0B
            have hbl := betL_len A f part w
            have hwf := gw.few
            have e1 : runV P A N S 0 w = runN N 0 w w.length := by unfold runV; rw [if_pos r1]
            have e2 : runV P A N S 0 (betL A f part w) = runN N 0 (betL A f part w) (betL A f part w).length := by unfold runV; rw [if_pos r2]
            have i1 := runN_in gw.m (s := 0) (by omega) gw.w w.length (Nat.le_refl _)
            have i2 := runN_in gw.m (s := 0) (by omega) gw.betW (betL A f part w).length (Nat.le_refl _)
            have s1 := gw.m.rowS (runN N 0 w w.length).toNat (by omega)
            have s2 := gw.m.rowS (runN N 0 (betL A f part w) (betL A f part w).length).toNat (by omega)
            have hlS := gw.m.lenS
            have hsv : srcV P A N S f part w = ((srcN A f part w : Nat) : Int) := by unfold srcV; rw [if_pos hb]
            have hbv : betV P A N S f part w = betL A f part w := by unfold betV; rw [if_pos hb]
            have hqv : bquietV P A N S f part w = decide ((S.getD (runN N 0 w w.length).toNat []).getD part.toNat 0 = (S.getD (runN N 0 (betL A f part w) (betL A f part w).length).toNat []).getD part.toNat 0) := by
              unfold bquietV
              rw [e1, e2, Bool.eq_iff_iff, decide_eq_true_eq, decide_eq_true_eq]
              exact ⟨fun h => h.2, fun h => ⟨hb, h⟩⟩
            refine AWPD.seq fun K73 hK73 => ?_
            -- region 21
            refine AWPD.keep [1, 2, 3, 4, 9, 15, 17] rfl ?_
            refine AWPD.region tabOK rfl ?_
            repeat refine And.intro (by first | exact fun h => h | exact fun _ => rfl | (intro h; rw [h]; rfl) | omega | (intros; (try dsimp only [Ty.T, Ty.size]); (try simp only [castL_self, Int.toNat_natCast, Int.toNat_zero, Int.toNat_one, true_and, List.length_append, List.length_set, List.length_drop, List.length_take, List.length_replicate, List.length_cons, List.length_nil, Nat.zero_add, Nat.mul_one]); omega) | decide | (intros; simp_all; done) | (intros; simp_all; omega)) ?_
            refine Exists.intro _ (Exists.intro _ (And.intro (StepD.call (rsrc_fn P A N S f part w gw) rfl rfl rfl) (And.intro rfl (And.intro trivial ?_))))
            refine hK73 _ _ ?_
            clear hK73
            refine AWPD.seq fun K74 hK74 => ?_
            -- region 22
            refine AWPD.keep [1, 2, 3, 4, 9, 15, 17, 18] rfl ?_
            refine AWPD.region tabOK rfl ?_
            repeat refine And.intro (by first | exact fun h => h | exact fun _ => rfl | (intro h; rw [h]; rfl) | omega | (intros; (try dsimp only [Ty.T, Ty.size]); (try simp only [castL_self, Int.toNat_natCast, Int.toNat_zero, Int.toNat_one, true_and, List.length_append, List.length_set, List.length_drop, List.length_take, List.length_replicate, List.length_cons, List.length_nil, Nat.zero_add, Nat.mul_one]); omega) | decide | (intros; simp_all; done) | (intros; simp_all; omega)) ?_
            refine Exists.intro _ (Exists.intro _ (And.intro (StepD.call (rpurgeto_fn P A N S f part w gw) rfl rfl rfl) (And.intro rfl (And.intro trivial ?_))))
            refine hK74 _ _ ?_
            clear hK74
            refine AWPD.seq fun K75 hK75 => ?_
            -- region 23
            refine AWPD.keep [1, 2, 3, 4, 9, 15, 17, 18, 19] rfl ?_
            refine AWPD.region tabOK rfl ?_
            repeat refine And.intro (by first | exact fun h => h | exact fun _ => rfl | (intro h; rw [h]; rfl) | omega | (intros; (try dsimp only [Ty.T, Ty.size]); (try simp only [castL_self, Int.toNat_natCast, Int.toNat_zero, Int.toNat_one, true_and, List.length_append, List.length_set, List.length_drop, List.length_take, List.length_replicate, List.length_cons, List.length_nil, Nat.zero_add, Nat.mul_one]); omega) | decide | (intros; simp_all; done) | (intros; simp_all; omega)) ?_
            refine Exists.intro _ (Exists.intro _ (And.intro (StepD.call (rrun_fn P A N S 0 w r1) rfl rfl rfl) (And.intro rfl (And.intro trivial ?_))))
            refine hK75 _ _ ?_
            clear hK75
            refine AWPD.seq fun K76 hK76 => ?_
            -- region 24
            refine AWPD.keep [1, 2, 3, 4, 9, 15, 17, 18, 19, 21] rfl ?_
            refine AWPD.region tabOK rfl ?_
            repeat refine And.intro (by first | exact fun h => h | exact fun _ => rfl | (intro h; rw [h]; rfl) | omega | (intros; (try dsimp only [Ty.T, Ty.size]); (try simp only [castL_self, Int.toNat_natCast, Int.toNat_zero, Int.toNat_one, true_and, List.length_append, List.length_set, List.length_drop, List.length_take, List.length_replicate, List.length_cons, List.length_nil, Nat.zero_add, Nat.mul_one]); omega) | decide | (intros; simp_all; done) | (intros; simp_all; omega)) ?_
            refine Exists.intro _ (Exists.intro _ (And.intro (StepD.call (rrun_fn P A N S 0 (betL A f part w) r2) rfl rfl rfl) (And.intro rfl (And.intro trivial ?_))))
            refine hK76 _ _ ?_
            clear hK76
            -- region 25
            refine AWPD.keep [1, 2, 3, 4, 9, 15, 17, 18, 19, 21, 22] rfl ?_
            refine AWPD.draw tabOK [] rfl (by kernel_rfl) ?_
            repeat refine And.intro (by first | exact fun h => h | exact fun _ => rfl | (intro h; rw [h]; rfl) | omega | (intros; (try dsimp only [Ty.T, Ty.size]); (try simp only [castL_self, Int.toNat_natCast, Int.toNat_zero, Int.toNat_one, true_and, List.length_append, List.length_set, List.length_drop, List.length_take, List.length_replicate, List.length_cons, List.length_nil, Nat.zero_add, Nat.mul_one]); omega) | decide | (intros; simp_all; done) | (intros; simp_all; omega)) ?_
            refine hK71 _ _ ?_
            clear hK71
            refine AWPD.seq fun K77 hK77 => ?_
            -- region 26
            refine AWPD.keep [1, 2, 3, 4, 9, 15, 17, 18, 19, 20] rfl ?_
            refine AWPD.region tabOK rfl ?_
            repeat refine And.intro (by first | exact fun h => h | exact fun _ => rfl | (intro h; rw [h]; rfl) | omega | (intros; (try dsimp only [Ty.T, Ty.size]); (try simp only [castL_self, Int.toNat_natCast, Int.toNat_zero, Int.toNat_one, true_and, List.length_append, List.length_set, List.length_drop, List.length_take, List.length_replicate, List.length_cons, List.length_nil, Nat.zero_add, Nat.mul_one]); omega) | decide | (intros; simp_all; done) | (intros; simp_all; omega)) ?_
            refine Exists.intro _ (Exists.intro _ (And.intro (StepD.call (bsources_fn _ _ _ _ _ _ _) rfl rfl rfl) (And.intro rfl (And.intro trivial ?_))))
            refine hK77 _ _ ?_
            clear hK77
            refine AWPD.seq fun K78 hK78 => ?_
            -- region 27
            try rw [hsv]
            refine AWPD.keep [1, 2, 3, 4, 9, 14, 15, 17, 18, 19, 20, 23] rfl ?_
            refine AWPD.region tabOK rfl ?_
            refine Exists.intro _ (Exists.intro _ (And.intro (StepD.callG errG_stays rfl hG0 (error_fn _ _) rfl rfl rfl) (And.intro rfl (And.intro trivial ?_))))
            repeat refine And.intro (by first | exact fun h => h | exact fun _ => rfl | (intro h; rw [h]; rfl) | omega | (intros; (try dsimp only [Ty.T, Ty.size]); (try simp only [castL_self, Int.toNat_natCast, Int.toNat_zero, Int.toNat_one, true_and, List.length_append, List.length_set, List.length_drop, List.length_take, List.length_replicate, List.length_cons, List.length_nil, Nat.zero_add, Nat.mul_one]); omega) | decide | (intros; simp_all; done) | (intros; simp_all; omega)) ?_
            refine hK78 _ _ ?_
            clear hK78
            refine AWPD.seq fun K79 hK79 => ?_
            -- region 28
            refine AWPD.keep [1, 2, 3, 4, 9, 15, 17, 19, 20, 24] rfl ?_
            refine AWPD.region tabOK rfl ?_
            repeat refine And.intro (by first | exact fun h => h | exact fun _ => rfl | (intro h; rw [h]; rfl) | omega | (intros; (try dsimp only [Ty.T, Ty.size]); (try simp only [castL_self, Int.toNat_natCast, Int.toNat_zero, Int.toNat_one, true_and, List.length_append, List.length_set, List.length_drop, List.length_take, List.length_replicate, List.length_cons, List.length_nil, Nat.zero_add, Nat.mul_one]); omega) | decide | (intros; simp_all; done) | (intros; simp_all; omega)) ?_
            refine Exists.intro _ (Exists.intro _ (And.intro (StepD.call (bpurge_fn _ _ _ _ _ _ _) rfl rfl rfl) (And.intro rfl (And.intro trivial ?_))))
            refine hK79 _ _ ?_
            clear hK79
            refine AWPD.seq fun K80 hK80 => ?_
            -- region 29
            try rw [hbv]
            refine AWPD.keep [1, 2, 3, 4, 9, 14, 15, 17, 19, 20, 24, 25] rfl ?_
            refine AWPD.region tabOK rfl ?_
            refine Exists.intro _ (Exists.intro _ (And.intro (StepD.callG errG_stays rfl hG0 (error_fn _ _) rfl rfl rfl) (And.intro rfl (And.intro trivial ?_))))
            repeat refine And.intro (by first | exact fun h => h | exact fun _ => rfl | (intro h; rw [h]; rfl) | omega | (intros; (try dsimp only [Ty.T, Ty.size]); (try simp only [castL_self, Int.toNat_natCast, Int.toNat_zero, Int.toNat_one, true_and, List.length_append, List.length_set, List.length_drop, List.length_take, List.length_replicate, List.length_cons, List.length_nil, Nat.zero_add, Nat.mul_one]); omega) | decide | (intros; simp_all; done) | (intros; simp_all; omega)) ?_
            refine Exists.intro _ (Exists.intro _ (And.intro (fun hg => StepD.call (by first | exact ints_fn _ _ (by omega) | exact LiftsD.fit (ints_fn [] [] (by decide)) ⟨⟨rfl, rfl⟩, ⟨rfl, by decide⟩, trivial⟩) rfl rfl rfl) (And.intro (fun hf => rfl) (And.intro rfl (And.intro trivial ?_)))))
            repeat refine And.intro (by first | exact fun h => h | exact fun _ => rfl | (intro h; rw [h]; rfl) | omega | (intros; (try dsimp only [Ty.T, Ty.size]); (try simp only [castL_self, Int.toNat_natCast, Int.toNat_zero, Int.toNat_one, true_and, List.length_append, List.length_set, List.length_drop, List.length_take, List.length_replicate, List.length_cons, List.length_nil, Nat.zero_add, Nat.mul_one]); omega) | decide | (intros; simp_all; done) | (intros; simp_all; omega)) ?_
            refine hK80 _ _ ?_
            clear hK80
            refine AWPD.seq fun K81 hK81 => ?_
            -- region 30
            refine AWPD.keep [1, 2, 3, 4, 9, 15, 17, 20, 24, 26] rfl ?_
            refine AWPD.region tabOK rfl ?_
            repeat refine And.intro (by first | exact fun h => h | exact fun _ => rfl | (intro h; rw [h]; rfl) | omega | (intros; (try dsimp only [Ty.T, Ty.size]); (try simp only [castL_self, Int.toNat_natCast, Int.toNat_zero, Int.toNat_one, true_and, List.length_append, List.length_set, List.length_drop, List.length_take, List.length_replicate, List.length_cons, List.length_nil, Nat.zero_add, Nat.mul_one]); omega) | decide | (intros; simp_all; done) | (intros; simp_all; omega)) ?_
            refine Exists.intro _ (Exists.intro _ (And.intro (StepD.call (bquiet_fn _ _ _ _ _ _ _) rfl rfl rfl) (And.intro rfl (And.intro trivial ?_))))
            refine hK81 _ _ ?_
            clear hK81
            refine AWPD.seq fun K82 hK82 => ?_
            -- region 31
            refine AWPD.keep [9, 14, 15, 16, 17, 20, 24, 26] rfl ?_
            refine AWPD.region tabOK rfl ?_
            repeat refine And.intro (by first | exact fun h => h | exact fun _ => rfl | (intro h; rw [h]; rfl) | omega | (intros; (try dsimp only [Ty.T, Ty.size]); (try simp only [castL_self, Int.toNat_natCast, Int.toNat_zero, Int.toNat_one, true_and, List.length_append, List.length_set, List.length_drop, List.length_take, List.length_replicate, List.length_cons, List.length_nil, Nat.zero_add, Nat.mul_one]); omega) | decide | (intros; simp_all; done) | (intros; simp_all; omega)) ?_
            refine Exists.intro _ (Exists.intro _ (And.intro (fun hg => StepD.callG errG_stays rfl hG0 (error_fn _ _) rfl rfl rfl) (And.intro (fun hf => rfl) (And.intro rfl (And.intro trivial ?_)))))
            repeat refine And.intro (by first | exact fun h => h | exact fun _ => rfl | (intro h; rw [h]; rfl) | omega | (intros; (try dsimp only [Ty.T, Ty.size]); (try simp only [castL_self, Int.toNat_natCast, Int.toNat_zero, Int.toNat_one, true_and, List.length_append, List.length_set, List.length_drop, List.length_take, List.length_replicate, List.length_cons, List.length_nil, Nat.zero_add, Nat.mul_one]); omega) | decide | (intros; simp_all; done) | (intros; simp_all; omega)) ?_
            refine hK82 _ _ ?_
            clear hK82
            refine AWPD.ret (And.intro (.inl rfl) ?_)
            -- result 4
            refine RetD.one ?_
            refine fitB rfl ?_
            simp [*]
        · try dsimp only [Ty.T] at h3
          try simp only [castL_self] at h3
          try simp only [Int.toNat_natCast] at h3
          try simp only [Int.toNat_zero] at h3
          have hnb : ¬bothE P A N S f part w = 0 := by rw [hbw]; exact h3
          have hsv : srcV P A N S f part w = 0 := by unfold srcV; rw [if_neg hnb]
          have hbv : betV P A N S f part w = [] := by unfold betV; rw [if_neg hnb]
          have hqv : bquietV P A N S f part w = false := by unfold bquietV; rw [decide_eq_false (fun h => hnb h.1)]
          refine AWPD.skip ?_
          refine hK71 _ _ ?_
          clear hK71
          refine AWPD.seq fun K83 hK83 => ?_
          -- region 26
          refine AWPD.keep [1, 2, 3, 4, 9, 15, 17, 18, 19, 20] rfl ?_
          refine AWPD.region tabOK rfl ?_
          repeat refine And.intro (by first | exact fun h => h | exact fun _ => rfl | (intro h; rw [h]; rfl) | omega | (intros; (try dsimp only [Ty.T, Ty.size]); (try simp only [castL_self, Int.toNat_natCast, Int.toNat_zero, Int.toNat_one, true_and, List.length_append, List.length_set, List.length_drop, List.length_take, List.length_replicate, List.length_cons, List.length_nil, Nat.zero_add, Nat.mul_one]); omega) | decide | (intros; simp_all; done) | (intros; simp_all; omega)) ?_
          refine Exists.intro _ (Exists.intro _ (And.intro (StepD.call (bsources_fn _ _ _ _ _ _ _) rfl rfl rfl) (And.intro rfl (And.intro trivial ?_))))
          refine hK83 _ _ ?_
          clear hK83
          refine AWPD.seq fun K84 hK84 => ?_
          -- region 27
          try rw [hsv]
          refine AWPD.keep [1, 2, 3, 4, 9, 14, 15, 17, 18, 19, 20, 23] rfl ?_
          refine AWPD.region tabOK rfl ?_
          refine Exists.intro _ (Exists.intro _ (And.intro (StepD.callG errG_stays rfl hG0 (error_fn _ _) rfl rfl rfl) (And.intro rfl (And.intro trivial ?_))))
          repeat refine And.intro (by first | exact fun h => h | exact fun _ => rfl | (intro h; rw [h]; rfl) | omega | (intros; (try dsimp only [Ty.T, Ty.size]); (try simp only [castL_self, Int.toNat_natCast, Int.toNat_zero, Int.toNat_one, true_and, List.length_append, List.length_set, List.length_drop, List.length_take, List.length_replicate, List.length_cons, List.length_nil, Nat.zero_add, Nat.mul_one]); omega) | decide | (intros; simp_all; done) | (intros; simp_all; omega)) ?_
          refine hK84 _ _ ?_
          clear hK84
          refine AWPD.seq fun K85 hK85 => ?_
          -- region 28
          refine AWPD.keep [1, 2, 3, 4, 9, 15, 17, 19, 20, 24] rfl ?_
          refine AWPD.region tabOK rfl ?_
          repeat refine And.intro (by first | exact fun h => h | exact fun _ => rfl | (intro h; rw [h]; rfl) | omega | (intros; (try dsimp only [Ty.T, Ty.size]); (try simp only [castL_self, Int.toNat_natCast, Int.toNat_zero, Int.toNat_one, true_and, List.length_append, List.length_set, List.length_drop, List.length_take, List.length_replicate, List.length_cons, List.length_nil, Nat.zero_add, Nat.mul_one]); omega) | decide | (intros; simp_all; done) | (intros; simp_all; omega)) ?_
          refine Exists.intro _ (Exists.intro _ (And.intro (StepD.call (bpurge_fn _ _ _ _ _ _ _) rfl rfl rfl) (And.intro rfl (And.intro trivial ?_))))
          refine hK85 _ _ ?_
          clear hK85
          refine AWPD.seq fun K86 hK86 => ?_
          -- region 29
          try rw [hbv]
          refine AWPD.keep [1, 2, 3, 4, 9, 14, 15, 17, 19, 20, 24, 25] rfl ?_
          refine AWPD.region tabOK rfl ?_
          refine Exists.intro _ (Exists.intro _ (And.intro (StepD.callG errG_stays rfl hG0 (error_fn _ _) rfl rfl rfl) (And.intro rfl (And.intro trivial ?_))))
          repeat refine And.intro (by first | exact fun h => h | exact fun _ => rfl | (intro h; rw [h]; rfl) | omega | (intros; (try dsimp only [Ty.T, Ty.size]); (try simp only [castL_self, Int.toNat_natCast, Int.toNat_zero, Int.toNat_one, true_and, List.length_append, List.length_set, List.length_drop, List.length_take, List.length_replicate, List.length_cons, List.length_nil, Nat.zero_add, Nat.mul_one]); omega) | decide | (intros; simp_all; done) | (intros; simp_all; omega)) ?_
          refine Exists.intro _ (Exists.intro _ (And.intro (fun hg => StepD.call (by first | exact ints_fn _ _ (by omega) | exact LiftsD.fit (ints_fn [] [] (by decide)) ⟨⟨rfl, rfl⟩, ⟨rfl, by decide⟩, trivial⟩) rfl rfl rfl) (And.intro (fun hf => rfl) (And.intro rfl (And.intro trivial ?_)))))
          repeat refine And.intro (by first | exact fun h => h | exact fun _ => rfl | (intro h; rw [h]; rfl) | omega | (intros; (try dsimp only [Ty.T, Ty.size]); (try simp only [castL_self, Int.toNat_natCast, Int.toNat_zero, Int.toNat_one, true_and, List.length_append, List.length_set, List.length_drop, List.length_take, List.length_replicate, List.length_cons, List.length_nil, Nat.zero_add, Nat.mul_one]); omega) | decide | (intros; simp_all; done) | (intros; simp_all; omega)) ?_
          refine hK86 _ _ ?_
          clear hK86
          refine AWPD.seq fun K87 hK87 => ?_
          -- region 30
          refine AWPD.keep [1, 2, 3, 4, 9, 15, 17, 20, 24, 26] rfl ?_
          refine AWPD.region tabOK rfl ?_
          repeat refine And.intro (by first | exact fun h => h | exact fun _ => rfl | (intro h; rw [h]; rfl) | omega | (intros; (try dsimp only [Ty.T, Ty.size]); (try simp only [castL_self, Int.toNat_natCast, Int.toNat_zero, Int.toNat_one, true_and, List.length_append, List.length_set, List.length_drop, List.length_take, List.length_replicate, List.length_cons, List.length_nil, Nat.zero_add, Nat.mul_one]); omega) | decide | (intros; simp_all; done) | (intros; simp_all; omega)) ?_
          refine Exists.intro _ (Exists.intro _ (And.intro (StepD.call (bquiet_fn _ _ _ _ _ _ _) rfl rfl rfl) (And.intro rfl (And.intro trivial ?_))))
          refine hK87 _ _ ?_
          clear hK87
          refine AWPD.seq fun K88 hK88 => ?_
          -- region 31
          refine AWPD.keep [9, 14, 15, 16, 17, 20, 24, 26] rfl ?_
          refine AWPD.region tabOK rfl ?_
          repeat refine And.intro (by first | exact fun h => h | exact fun _ => rfl | (intro h; rw [h]; rfl) | omega | (intros; (try dsimp only [Ty.T, Ty.size]); (try simp only [castL_self, Int.toNat_natCast, Int.toNat_zero, Int.toNat_one, true_and, List.length_append, List.length_set, List.length_drop, List.length_take, List.length_replicate, List.length_cons, List.length_nil, Nat.zero_add, Nat.mul_one]); omega) | decide | (intros; simp_all; done) | (intros; simp_all; omega)) ?_
          refine Exists.intro _ (Exists.intro _ (And.intro (fun hg => StepD.callG errG_stays rfl hG0 (error_fn _ _) rfl rfl rfl) (And.intro (fun hf => rfl) (And.intro rfl (And.intro trivial ?_)))))
          repeat refine And.intro (by first | exact fun h => h | exact fun _ => rfl | (intro h; rw [h]; rfl) | omega | (intros; (try dsimp only [Ty.T, Ty.size]); (try simp only [castL_self, Int.toNat_natCast, Int.toNat_zero, Int.toNat_one, true_and, List.length_append, List.length_set, List.length_drop, List.length_take, List.length_replicate, List.length_cons, List.length_nil, Nat.zero_add, Nat.mul_one]); omega) | decide | (intros; simp_all; done) | (intros; simp_all; omega)) ?_
          refine hK88 _ _ ?_
          clear hK88
          refine AWPD.ret (And.intro (.inl rfl) ?_)
          -- result 5
          refine RetD.one ?_
          refine fitB rfl ?_
          simp [*]
    · try dsimp only [Ty.T] at h2
      try simp only [castL_self] at h2
      try simp only [Int.toNat_natCast] at h2
      try simp only [Int.toNat_zero] at h2
      have hnc2 : ¬chkE P A N S f part = 0 := h2
      have hbw : bothE P A N S f part w = chkE P A N S f part := by unfold bothE; rw [if_pos hnc2]
      refine AWPD.skip ?_
      refine hK66 _ _ ?_
      clear hK66
      refine AWPD.seq fun K89 hK89 => ?_
      -- region 17
      refine AWPD.keep [1, 2, 3, 4, 9, 15, 17] rfl ?_
      refine AWPD.region tabOK rfl ?_
      refine hK89 _ _ ?_
      clear hK89
      refine AWPD.seq fun K90 hK90 => ?_
      -- region 18
      refine AWPD.keep [1, 2, 3, 4, 9, 15, 17, 18] rfl ?_
      refine AWPD.region tabOK rfl ?_
      refine hK90 _ _ ?_
      clear hK90
      refine AWPD.seq fun K91 hK91 => ?_
      -- region 19
      refine AWPD.keep [1, 2, 3, 4, 9, 15, 17, 18, 19] rfl ?_
      refine AWPD.region tabOK rfl ?_
      refine hK91 _ _ ?_
      clear hK91
      refine AWPD.seq fun K92 hK92 => ?_
      refine AWPD.seq fun K93 hK93 => ?_
      -- region 20
      refine AWPD.keep [1, 2, 3, 4, 9, 15, 17, 18, 19, 20] rfl ?_
      refine AWPD.region tabOK rfl ?_
      refine hK93 _ _ ?_
      clear hK93
      first | refine AWPD.condP rfl (fun h3 => ?_) (fun h3 => ?_) | refine AWPD.condN rfl (fun h3 => ?_) (fun h3 => ?_) | refine AWPD.condAP rfl (fun h3 => ?_) (fun h3 => ?_) | refine AWPD.condOP rfl (fun h3 => ?_) (fun h3 => ?_) | refine AWPD.condONN rfl (fun h3 => ?_) (fun h3 => ?_) | refine AWPD.condOPN rfl (fun h3 => ?_) (fun h3 => ?_) | refine AWPD.condA rfl (fun h3 => ?_) (fun h3 => ?_) | refine AWPD.condO rfl (fun h3 => ?_) (fun h3 => ?_) | refine AWPD.cond rfl (fun h3 => ?_) (fun h3 => ?_)
      · try dsimp only [Ty.T] at h3
        try simp only [castL_self] at h3
        try simp only [Int.toNat_natCast] at h3
        try simp only [Int.toNat_zero] at h3
        try (exact absurd h3 hnc2; done)
        all_goals
          have hb : bothE P A N S f part w = 0 := hbw.trans h3
          have gw := both_ok hb
          have gpp := gw.part
          have gPP := gw.m.parts
          have gN0 := gw.m.some
          have gN := gw.m.few
          have r1 := gw.run0
          have r2 := gw.run0B
          have hbl := betL_len A f part w
          have hwf := gw.few
          have e1 : runV P A N S 0 w = runN N 0 w w.length := by unfold runV; rw [if_pos r1]
          have e2 : runV P A N S 0 (betL A f part w) = runN N 0 (betL A f part w) (betL A f part w).length := by unfold runV; rw [if_pos r2]
          have i1 := runN_in gw.m (s := 0) (by omega) gw.w w.length (Nat.le_refl _)
          have i2 := runN_in gw.m (s := 0) (by omega) gw.betW (betL A f part w).length (Nat.le_refl _)
          have s1 := gw.m.rowS (runN N 0 w w.length).toNat (by omega)
          have s2 := gw.m.rowS (runN N 0 (betL A f part w) (betL A f part w).length).toNat (by omega)
          have hlS := gw.m.lenS
          have hsv : srcV P A N S f part w = ((srcN A f part w : Nat) : Int) := by unfold srcV; rw [if_pos hb]
          have hbv : betV P A N S f part w = betL A f part w := by unfold betV; rw [if_pos hb]
          have hqv : bquietV P A N S f part w = decide ((S.getD (runN N 0 w w.length).toNat []).getD part.toNat 0 = (S.getD (runN N 0 (betL A f part w) (betL A f part w).length).toNat []).getD part.toNat 0) := by
            unfold bquietV
            rw [e1, e2, Bool.eq_iff_iff, decide_eq_true_eq, decide_eq_true_eq]
            exact ⟨fun h => h.2, fun h => ⟨hb, h⟩⟩
          refine AWPD.seq fun K94 hK94 => ?_
          -- region 21
          refine AWPD.keep [1, 2, 3, 4, 9, 15, 17] rfl ?_
          refine AWPD.region tabOK rfl ?_
          repeat refine And.intro (by first | exact fun h => h | exact fun _ => rfl | (intro h; rw [h]; rfl) | omega | (intros; (try dsimp only [Ty.T, Ty.size]); (try simp only [castL_self, Int.toNat_natCast, Int.toNat_zero, Int.toNat_one, true_and, List.length_append, List.length_set, List.length_drop, List.length_take, List.length_replicate, List.length_cons, List.length_nil, Nat.zero_add, Nat.mul_one]); omega) | decide | (intros; simp_all; done) | (intros; simp_all; omega)) ?_
          refine Exists.intro _ (Exists.intro _ (And.intro (StepD.call (rsrc_fn P A N S f part w gw) rfl rfl rfl) (And.intro rfl (And.intro trivial ?_))))
          refine hK94 _ _ ?_
          clear hK94
          refine AWPD.seq fun K95 hK95 => ?_
          -- region 22
          refine AWPD.keep [1, 2, 3, 4, 9, 15, 17, 18] rfl ?_
          refine AWPD.region tabOK rfl ?_
          repeat refine And.intro (by first | exact fun h => h | exact fun _ => rfl | (intro h; rw [h]; rfl) | omega | (intros; (try dsimp only [Ty.T, Ty.size]); (try simp only [castL_self, Int.toNat_natCast, Int.toNat_zero, Int.toNat_one, true_and, List.length_append, List.length_set, List.length_drop, List.length_take, List.length_replicate, List.length_cons, List.length_nil, Nat.zero_add, Nat.mul_one]); omega) | decide | (intros; simp_all; done) | (intros; simp_all; omega)) ?_
          refine Exists.intro _ (Exists.intro _ (And.intro (StepD.call (rpurgeto_fn P A N S f part w gw) rfl rfl rfl) (And.intro rfl (And.intro trivial ?_))))
          refine hK95 _ _ ?_
          clear hK95
          refine AWPD.seq fun K96 hK96 => ?_
          -- region 23
          refine AWPD.keep [1, 2, 3, 4, 9, 15, 17, 18, 19] rfl ?_
          refine AWPD.region tabOK rfl ?_
          repeat refine And.intro (by first | exact fun h => h | exact fun _ => rfl | (intro h; rw [h]; rfl) | omega | (intros; (try dsimp only [Ty.T, Ty.size]); (try simp only [castL_self, Int.toNat_natCast, Int.toNat_zero, Int.toNat_one, true_and, List.length_append, List.length_set, List.length_drop, List.length_take, List.length_replicate, List.length_cons, List.length_nil, Nat.zero_add, Nat.mul_one]); omega) | decide | (intros; simp_all; done) | (intros; simp_all; omega)) ?_
          refine Exists.intro _ (Exists.intro _ (And.intro (StepD.call (rrun_fn P A N S 0 w r1) rfl rfl rfl) (And.intro rfl (And.intro trivial ?_))))
          refine hK96 _ _ ?_
          clear hK96
          refine AWPD.seq fun K97 hK97 => ?_
          -- region 24
          refine AWPD.keep [1, 2, 3, 4, 9, 15, 17, 18, 19, 21] rfl ?_
          refine AWPD.region tabOK rfl ?_
          repeat refine And.intro (by first | exact fun h => h | exact fun _ => rfl | (intro h; rw [h]; rfl) | omega | (intros; (try dsimp only [Ty.T, Ty.size]); (try simp only [castL_self, Int.toNat_natCast, Int.toNat_zero, Int.toNat_one, true_and, List.length_append, List.length_set, List.length_drop, List.length_take, List.length_replicate, List.length_cons, List.length_nil, Nat.zero_add, Nat.mul_one]); omega) | decide | (intros; simp_all; done) | (intros; simp_all; omega)) ?_
          refine Exists.intro _ (Exists.intro _ (And.intro (StepD.call (rrun_fn P A N S 0 (betL A f part w) r2) rfl rfl rfl) (And.intro rfl (And.intro trivial ?_))))
          refine hK97 _ _ ?_
          clear hK97
          -- region 25
          refine AWPD.keep [1, 2, 3, 4, 9, 15, 17, 18, 19, 21, 22] rfl ?_
          refine AWPD.draw tabOK [] rfl (by kernel_rfl) ?_
          repeat refine And.intro (by first | exact fun h => h | exact fun _ => rfl | (intro h; rw [h]; rfl) | omega | (intros; (try dsimp only [Ty.T, Ty.size]); (try simp only [castL_self, Int.toNat_natCast, Int.toNat_zero, Int.toNat_one, true_and, List.length_append, List.length_set, List.length_drop, List.length_take, List.length_replicate, List.length_cons, List.length_nil, Nat.zero_add, Nat.mul_one]); omega) | decide | (intros; simp_all; done) | (intros; simp_all; omega)) ?_
          refine hK92 _ _ ?_
          clear hK92
          refine AWPD.seq fun K98 hK98 => ?_
          -- region 26
          refine AWPD.keep [1, 2, 3, 4, 9, 15, 17, 18, 19, 20] rfl ?_
          refine AWPD.region tabOK rfl ?_
          repeat refine And.intro (by first | exact fun h => h | exact fun _ => rfl | (intro h; rw [h]; rfl) | omega | (intros; (try dsimp only [Ty.T, Ty.size]); (try simp only [castL_self, Int.toNat_natCast, Int.toNat_zero, Int.toNat_one, true_and, List.length_append, List.length_set, List.length_drop, List.length_take, List.length_replicate, List.length_cons, List.length_nil, Nat.zero_add, Nat.mul_one]); omega) | decide | (intros; simp_all; done) | (intros; simp_all; omega)) ?_
          refine Exists.intro _ (Exists.intro _ (And.intro (StepD.call (bsources_fn _ _ _ _ _ _ _) rfl rfl rfl) (And.intro rfl (And.intro trivial ?_))))
          refine hK98 _ _ ?_
          clear hK98
          refine AWPD.seq fun K99 hK99 => ?_
          -- region 27
          try rw [hsv]
          refine AWPD.keep [1, 2, 3, 4, 9, 14, 15, 17, 18, 19, 20, 23] rfl ?_
          refine AWPD.region tabOK rfl ?_
          refine Exists.intro _ (Exists.intro _ (And.intro (StepD.callG errG_stays rfl hG0 (error_fn _ _) rfl rfl rfl) (And.intro rfl (And.intro trivial ?_))))
          repeat refine And.intro (by first | exact fun h => h | exact fun _ => rfl | (intro h; rw [h]; rfl) | omega | (intros; (try dsimp only [Ty.T, Ty.size]); (try simp only [castL_self, Int.toNat_natCast, Int.toNat_zero, Int.toNat_one, true_and, List.length_append, List.length_set, List.length_drop, List.length_take, List.length_replicate, List.length_cons, List.length_nil, Nat.zero_add, Nat.mul_one]); omega) | decide | (intros; simp_all; done) | (intros; simp_all; omega)) ?_
          refine hK99 _ _ ?_
          clear hK99
          refine AWPD.seq fun K100 hK100 => ?_
          -- region 28
          refine AWPD.keep [1, 2, 3, 4, 9, 15, 17, 19, 20, 24] rfl ?_
          refine AWPD.region tabOK rfl ?_
          repeat refine And.intro (by first | exact fun h => h | exact fun _ => rfl | (intro h; rw [h]; rfl) | omega | (intros; (try dsimp only [Ty.T, Ty.size]); (try simp only [castL_self, Int.toNat_natCast, Int.toNat_zero, Int.toNat_one, true_and, List.length_append, List.length_set, List.length_drop, List.length_take, List.length_replicate, List.length_cons, List.length_nil, Nat.zero_add, Nat.mul_one]); omega) | decide | (intros; simp_all; done) | (intros; simp_all; omega)) ?_
          refine Exists.intro _ (Exists.intro _ (And.intro (StepD.call (bpurge_fn _ _ _ _ _ _ _) rfl rfl rfl) (And.intro rfl (And.intro trivial ?_))))
          refine hK100 _ _ ?_
          clear hK100
          refine AWPD.seq fun K101 hK101 => ?_
          -- region 29
          try rw [hbv]
          refine AWPD.keep [1, 2, 3, 4, 9, 14, 15, 17, 19, 20, 24, 25] rfl ?_
          refine AWPD.region tabOK rfl ?_
          refine Exists.intro _ (Exists.intro _ (And.intro (StepD.callG errG_stays rfl hG0 (error_fn _ _) rfl rfl rfl) (And.intro rfl (And.intro trivial ?_))))
          repeat refine And.intro (by first | exact fun h => h | exact fun _ => rfl | (intro h; rw [h]; rfl) | omega | (intros; (try dsimp only [Ty.T, Ty.size]); (try simp only [castL_self, Int.toNat_natCast, Int.toNat_zero, Int.toNat_one, true_and, List.length_append, List.length_set, List.length_drop, List.length_take, List.length_replicate, List.length_cons, List.length_nil, Nat.zero_add, Nat.mul_one]); omega) | decide | (intros; simp_all; done) | (intros; simp_all; omega)) ?_
          refine Exists.intro _ (Exists.intro _ (And.intro (fun hg => StepD.call (by first | exact ints_fn _ _ (by omega) | exact LiftsD.fit (ints_fn [] [] (by decide)) ⟨⟨rfl, rfl⟩, ⟨rfl, by decide⟩, trivial⟩) rfl rfl rfl) (And.intro (fun hf => rfl) (And.intro rfl (And.intro trivial ?_)))))
          repeat refine And.intro (by first | exact fun h => h | exact fun _ => rfl | (intro h; rw [h]; rfl) | omega | (intros; (try dsimp only [Ty.T, Ty.size]); (try simp only [castL_self, Int.toNat_natCast, Int.toNat_zero, Int.toNat_one, true_and, List.length_append, List.length_set, List.length_drop, List.length_take, List.length_replicate, List.length_cons, List.length_nil, Nat.zero_add, Nat.mul_one]); omega) | decide | (intros; simp_all; done) | (intros; simp_all; omega)) ?_
          refine hK101 _ _ ?_
          clear hK101
          refine AWPD.seq fun K102 hK102 => ?_
          -- region 30
          refine AWPD.keep [1, 2, 3, 4, 9, 15, 17, 20, 24, 26] rfl ?_
          refine AWPD.region tabOK rfl ?_
          repeat refine And.intro (by first | exact fun h => h | exact fun _ => rfl | (intro h; rw [h]; rfl) | omega | (intros; (try dsimp only [Ty.T, Ty.size]); (try simp only [castL_self, Int.toNat_natCast, Int.toNat_zero, Int.toNat_one, true_and, List.length_append, List.length_set, List.length_drop, List.length_take, List.length_replicate, List.length_cons, List.length_nil, Nat.zero_add, Nat.mul_one]); omega) | decide | (intros; simp_all; done) | (intros; simp_all; omega)) ?_
          refine Exists.intro _ (Exists.intro _ (And.intro (StepD.call (bquiet_fn _ _ _ _ _ _ _) rfl rfl rfl) (And.intro rfl (And.intro trivial ?_))))
          refine hK102 _ _ ?_
          clear hK102
          refine AWPD.seq fun K103 hK103 => ?_
          -- region 31
          refine AWPD.keep [9, 14, 15, 16, 17, 20, 24, 26] rfl ?_
          refine AWPD.region tabOK rfl ?_
          repeat refine And.intro (by first | exact fun h => h | exact fun _ => rfl | (intro h; rw [h]; rfl) | omega | (intros; (try dsimp only [Ty.T, Ty.size]); (try simp only [castL_self, Int.toNat_natCast, Int.toNat_zero, Int.toNat_one, true_and, List.length_append, List.length_set, List.length_drop, List.length_take, List.length_replicate, List.length_cons, List.length_nil, Nat.zero_add, Nat.mul_one]); omega) | decide | (intros; simp_all; done) | (intros; simp_all; omega)) ?_
          refine Exists.intro _ (Exists.intro _ (And.intro (fun hg => StepD.callG errG_stays rfl hG0 (error_fn _ _) rfl rfl rfl) (And.intro (fun hf => rfl) (And.intro rfl (And.intro trivial ?_)))))
          repeat refine And.intro (by first | exact fun h => h | exact fun _ => rfl | (intro h; rw [h]; rfl) | omega | (intros; (try dsimp only [Ty.T, Ty.size]); (try simp only [castL_self, Int.toNat_natCast, Int.toNat_zero, Int.toNat_one, true_and, List.length_append, List.length_set, List.length_drop, List.length_take, List.length_replicate, List.length_cons, List.length_nil, Nat.zero_add, Nat.mul_one]); omega) | decide | (intros; simp_all; done) | (intros; simp_all; omega)) ?_
          refine hK103 _ _ ?_
          clear hK103
          refine AWPD.ret (And.intro (.inl rfl) ?_)
          -- result 6
          refine RetD.one ?_
          refine fitB rfl ?_
          simp [*]
      · try dsimp only [Ty.T] at h3
        try simp only [castL_self] at h3
        try simp only [Int.toNat_natCast] at h3
        try simp only [Int.toNat_zero] at h3
        have hnb : ¬bothE P A N S f part w = 0 := by rw [hbw]; exact h3
        have hsv : srcV P A N S f part w = 0 := by unfold srcV; rw [if_neg hnb]
        have hbv : betV P A N S f part w = [] := by unfold betV; rw [if_neg hnb]
        have hqv : bquietV P A N S f part w = false := by unfold bquietV; rw [decide_eq_false (fun h => hnb h.1)]
        refine AWPD.skip ?_
        refine hK92 _ _ ?_
        clear hK92
        refine AWPD.seq fun K104 hK104 => ?_
        -- region 26
        refine AWPD.keep [1, 2, 3, 4, 9, 15, 17, 18, 19, 20] rfl ?_
        refine AWPD.region tabOK rfl ?_
        repeat refine And.intro (by first | exact fun h => h | exact fun _ => rfl | (intro h; rw [h]; rfl) | omega | (intros; (try dsimp only [Ty.T, Ty.size]); (try simp only [castL_self, Int.toNat_natCast, Int.toNat_zero, Int.toNat_one, true_and, List.length_append, List.length_set, List.length_drop, List.length_take, List.length_replicate, List.length_cons, List.length_nil, Nat.zero_add, Nat.mul_one]); omega) | decide | (intros; simp_all; done) | (intros; simp_all; omega)) ?_
        refine Exists.intro _ (Exists.intro _ (And.intro (StepD.call (bsources_fn _ _ _ _ _ _ _) rfl rfl rfl) (And.intro rfl (And.intro trivial ?_))))
        refine hK104 _ _ ?_
        clear hK104
        refine AWPD.seq fun K105 hK105 => ?_
        -- region 27
        try rw [hsv]
        refine AWPD.keep [1, 2, 3, 4, 9, 14, 15, 17, 18, 19, 20, 23] rfl ?_
        refine AWPD.region tabOK rfl ?_
        refine Exists.intro _ (Exists.intro _ (And.intro (StepD.callG errG_stays rfl hG0 (error_fn _ _) rfl rfl rfl) (And.intro rfl (And.intro trivial ?_))))
        repeat refine And.intro (by first | exact fun h => h | exact fun _ => rfl | (intro h; rw [h]; rfl) | omega | (intros; (try dsimp only [Ty.T, Ty.size]); (try simp only [castL_self, Int.toNat_natCast, Int.toNat_zero, Int.toNat_one, true_and, List.length_append, List.length_set, List.length_drop, List.length_take, List.length_replicate, List.length_cons, List.length_nil, Nat.zero_add, Nat.mul_one]); omega) | decide | (intros; simp_all; done) | (intros; simp_all; omega)) ?_
        refine hK105 _ _ ?_
        clear hK105
        refine AWPD.seq fun K106 hK106 => ?_
        -- region 28
        refine AWPD.keep [1, 2, 3, 4, 9, 15, 17, 19, 20, 24] rfl ?_
        refine AWPD.region tabOK rfl ?_
        repeat refine And.intro (by first | exact fun h => h | exact fun _ => rfl | (intro h; rw [h]; rfl) | omega | (intros; (try dsimp only [Ty.T, Ty.size]); (try simp only [castL_self, Int.toNat_natCast, Int.toNat_zero, Int.toNat_one, true_and, List.length_append, List.length_set, List.length_drop, List.length_take, List.length_replicate, List.length_cons, List.length_nil, Nat.zero_add, Nat.mul_one]); omega) | decide | (intros; simp_all; done) | (intros; simp_all; omega)) ?_
        refine Exists.intro _ (Exists.intro _ (And.intro (StepD.call (bpurge_fn _ _ _ _ _ _ _) rfl rfl rfl) (And.intro rfl (And.intro trivial ?_))))
        refine hK106 _ _ ?_
        clear hK106
        refine AWPD.seq fun K107 hK107 => ?_
        -- region 29
        try rw [hbv]
        refine AWPD.keep [1, 2, 3, 4, 9, 14, 15, 17, 19, 20, 24, 25] rfl ?_
        refine AWPD.region tabOK rfl ?_
        refine Exists.intro _ (Exists.intro _ (And.intro (StepD.callG errG_stays rfl hG0 (error_fn _ _) rfl rfl rfl) (And.intro rfl (And.intro trivial ?_))))
        repeat refine And.intro (by first | exact fun h => h | exact fun _ => rfl | (intro h; rw [h]; rfl) | omega | (intros; (try dsimp only [Ty.T, Ty.size]); (try simp only [castL_self, Int.toNat_natCast, Int.toNat_zero, Int.toNat_one, true_and, List.length_append, List.length_set, List.length_drop, List.length_take, List.length_replicate, List.length_cons, List.length_nil, Nat.zero_add, Nat.mul_one]); omega) | decide | (intros; simp_all; done) | (intros; simp_all; omega)) ?_
        refine Exists.intro _ (Exists.intro _ (And.intro (fun hg => StepD.call (by first | exact ints_fn _ _ (by omega) | exact LiftsD.fit (ints_fn [] [] (by decide)) ⟨⟨rfl, rfl⟩, ⟨rfl, by decide⟩, trivial⟩) rfl rfl rfl) (And.intro (fun hf => rfl) (And.intro rfl (And.intro trivial ?_)))))
        repeat refine And.intro (by first | exact fun h => h | exact fun _ => rfl | (intro h; rw [h]; rfl) | omega | (intros; (try dsimp only [Ty.T, Ty.size]); (try simp only [castL_self, Int.toNat_natCast, Int.toNat_zero, Int.toNat_one, true_and, List.length_append, List.length_set, List.length_drop, List.length_take, List.length_replicate, List.length_cons, List.length_nil, Nat.zero_add, Nat.mul_one]); omega) | decide | (intros; simp_all; done) | (intros; simp_all; omega)) ?_
        refine hK107 _ _ ?_
        clear hK107
        refine AWPD.seq fun K108 hK108 => ?_
        -- region 30
        refine AWPD.keep [1, 2, 3, 4, 9, 15, 17, 20, 24, 26] rfl ?_
        refine AWPD.region tabOK rfl ?_
        repeat refine And.intro (by first | exact fun h => h | exact fun _ => rfl | (intro h; rw [h]; rfl) | omega | (intros; (try dsimp only [Ty.T, Ty.size]); (try simp only [castL_self, Int.toNat_natCast, Int.toNat_zero, Int.toNat_one, true_and, List.length_append, List.length_set, List.length_drop, List.length_take, List.length_replicate, List.length_cons, List.length_nil, Nat.zero_add, Nat.mul_one]); omega) | decide | (intros; simp_all; done) | (intros; simp_all; omega)) ?_
        refine Exists.intro _ (Exists.intro _ (And.intro (StepD.call (bquiet_fn _ _ _ _ _ _ _) rfl rfl rfl) (And.intro rfl (And.intro trivial ?_))))
        refine hK108 _ _ ?_
        clear hK108
        refine AWPD.seq fun K109 hK109 => ?_
        -- region 31
        refine AWPD.keep [9, 14, 15, 16, 17, 20, 24, 26] rfl ?_
        refine AWPD.region tabOK rfl ?_
        repeat refine And.intro (by first | exact fun h => h | exact fun _ => rfl | (intro h; rw [h]; rfl) | omega | (intros; (try dsimp only [Ty.T, Ty.size]); (try simp only [castL_self, Int.toNat_natCast, Int.toNat_zero, Int.toNat_one, true_and, List.length_append, List.length_set, List.length_drop, List.length_take, List.length_replicate, List.length_cons, List.length_nil, Nat.zero_add, Nat.mul_one]); omega) | decide | (intros; simp_all; done) | (intros; simp_all; omega)) ?_
        refine Exists.intro _ (Exists.intro _ (And.intro (fun hg => StepD.callG errG_stays rfl hG0 (error_fn _ _) rfl rfl rfl) (And.intro (fun hf => rfl) (And.intro rfl (And.intro trivial ?_)))))
        repeat refine And.intro (by first | exact fun h => h | exact fun _ => rfl | (intro h; rw [h]; rfl) | omega | (intros; (try dsimp only [Ty.T, Ty.size]); (try simp only [castL_self, Int.toNat_natCast, Int.toNat_zero, Int.toNat_one, true_and, List.length_append, List.length_set, List.length_drop, List.length_take, List.length_replicate, List.length_cons, List.length_nil, Nat.zero_add, Nat.mul_one]); omega) | decide | (intros; simp_all; done) | (intros; simp_all; omega)) ?_
        refine hK109 _ _ ?_
        clear hK109
        refine AWPD.ret (And.intro (.inl rfl) ?_)
        -- result 7
        refine RetD.one ?_
        refine fitB rfl ?_
        simp [*]
end Go.Proofs.YtndoigkmdcgjfaaDoor
