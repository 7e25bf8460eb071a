
/-
  WALK of the law UnwindSays. Laid by a program of mine out of the operations, with the loops and results told by hand.
-/
import Derived.Test.YtndoigkmdcgjfaaDoorQwUt
import Derived.Test.YtndoigkmdcgjfaaDoorQwDt
namespace Go.Proofs.YtndoigkmdcgjfaaDoor
open Go Go.Qw
set_option maxRecDepth 10000
set_option linter.unusedSimpArgs false
set_option linter.unusedVariables false
set_option linter.unusedSectionVars false

theorem unwindSays_fn (P : Int) (A : List Int) (N S : List (List Int)) (f : List Int) (part : Int) : LiftsG Tryd.prog bothG 10 [.agg [.i P, .sl .int A, .sl (.sl .int) N, .sl (.sl .int) S], .sl .int f, .i part] (.b true) := by
  refine LiftsG.of_body 73 [.tmp 6] Tryd.func10 rfl Tryd.ntmps10 (by kernel_rfl) rfl rfl fun w0 X0 hG0 => ?_
  refine AWPD.seq fun K1 hK1 => ?_
  -- region 0
  refine AWPD.keep [0, 1, 2] rfl ?_
  refine AWPD.region tabOK rfl ?_
  refine hK1 _ _ ?_
  clear hK1
  refine AWPD.seq fun K2 hK2 => ?_
  -- region 1
  refine AWPD.keep [1, 2, 3] rfl ?_
  refine AWPD.region tabOK rfl ?_
  repeat refine And.intro (by first | exact fun h => h | exact fun _ => rfl | (intro h; rw [h]; rfl) | omega | (intros; (try dsimp only [Ty.T, Ty.size]); (try simp only [castL_self, Int.toNat_natCast, Int.toNat_zero, Int.toNat_one, true_and, List.length_append, List.length_set, List.length_drop, List.length_take, List.length_replicate, List.length_cons, List.length_nil, Nat.zero_add, Nat.mul_one]); omega) | decide | (intros; simp_all; done) | (intros; simp_all; omega)) ?_
  refine Exists.intro _ (Exists.intro _ (And.intro (StepD.call (rpart_fn _ _ _ _ _ _) rfl rfl rfl) (And.intro rfl (And.intro trivial ?_))))
  refine hK2 _ _ ?_
  clear hK2
  refine AWPD.seq fun K3 hK3 => ?_
  -- region 2
  refine AWPD.keep [1, 2, 3, 7] rfl ?_
  refine AWPD.region tabOK rfl ?_
  refine hK3 _ _ ?_
  clear hK3
  refine AWPD.seq fun K4 hK4 => ?_
  refine AWPD.seq fun K5 hK5 => ?_
  -- region 3
  refine AWPD.keep [1, 2, 3, 7, 8, 9] rfl ?_
  refine AWPD.region tabOK rfl ?_
  refine hK5 _ _ ?_
  clear hK5
  first | refine AWPD.condP rfl (fun h0 => ?_) (fun h0 => ?_) | refine AWPD.condN rfl (fun h0 => ?_) (fun h0 => ?_) | refine AWPD.condAP rfl (fun h0 => ?_) (fun h0 => ?_) | refine AWPD.condOP rfl (fun h0 => ?_) (fun h0 => ?_) | refine AWPD.condONN rfl (fun h0 => ?_) (fun h0 => ?_) | refine AWPD.condOPN rfl (fun h0 => ?_) (fun h0 => ?_) | refine AWPD.condA rfl (fun h0 => ?_) (fun h0 => ?_) | refine AWPD.condO rfl (fun h0 => ?_) (fun h0 => ?_) | refine AWPD.cond rfl (fun h0 => ?_) (fun h0 => ?_)
  · try dsimp only [Ty.T] at h0
    try simp only [castL_self] at h0
    try simp only [Int.toNat_natCast] at h0
    try simp only [Int.toNat_zero] at h0
    have he : chkE P A N S f part = 0 := h0
    obtain ⟨hpol, hp1, hp2⟩ := chk_ok he
    obtain ⟨hme, gf⟩ := pol_ok hpol
    have g := mach_good hme
    have hN := g.few
    have hsame : outV (vF3 N A f part) (reachN N) N.length N.length = viewsV P A N S f part := by
      rw [viewsV_ok he]
      exact outV_same fun s t hs ht => (g.least_same f part hs ht).symm
    have hvl := viewsV_len he
    have hal := alikeL_len S part (viewsV P A N S f part) N.length
    have hhl := holdsL_ok he
    have hhb := holdsB_ok he
    refine AWPD.seq fun K6 hK6 => ?_
    -- region 4
    refine AWPD.keep [1, 2, 3, 7] rfl ?_
    refine AWPD.region tabOK rfl ?_
    repeat refine And.intro (by first | exact fun h => h | exact fun _ => rfl | (intro h; rw [h]; rfl) | omega | (intros; (try dsimp only [Ty.T, Ty.size]); (try simp only [castL_self, Int.toNat_natCast, Int.toNat_zero, Int.toNat_one, true_and, List.length_append, List.length_set, List.length_drop, List.length_take, List.length_replicate, List.length_cons, List.length_nil, Nat.zero_add, Nat.mul_one]); omega) | decide | (intros; simp_all; done) | (intros; simp_all; omega)) ?_
    refine Exists.intro _ (Exists.intro _ (And.intro (StepD.callN (rviews_fn P A N S f part (by assumption)) rfl rfl (by first | exact rfl | exact row_free _ _ _)) (And.intro rfl (And.intro trivial ?_))))
    refine hK6 _ _ ?_
    clear hK6
    -- region 5
    refine AWPD.freeze 8 rfl rfl rfl ?_
    rw [hsame]
    refine AWPD.keep [1, 2, 3, 7, 8] rfl ?_
    refine AWPD.region tabOK rfl ?_
    repeat refine And.intro (by first | exact fun h => h | exact fun _ => rfl | (intro h; rw [h]; rfl) | omega | (intros; (try dsimp only [Ty.T, Ty.size]); (try simp only [castL_self, Int.toNat_natCast, Int.toNat_zero, Int.toNat_one, true_and, List.length_append, List.length_set, List.length_drop, List.length_take, List.length_replicate, List.length_cons, List.length_nil, Nat.zero_add, Nat.mul_one]); omega) | decide | (intros; simp_all; done) | (intros; simp_all; omega)) ?_
    refine Exists.intro _ (Exists.intro _ (And.intro (StepD.call (ralike_fn P A N S _ part g (by omega) hvl) rfl rfl rfl) (And.intro rfl (And.intro trivial ?_))))
    refine hK4 _ _ ?_
    clear hK4
    refine AWPD.seq fun K7 hK7 => ?_
    -- region 6
    refine AWPD.keep [1, 2, 3, 7, 8, 9] rfl ?_
    refine AWPD.region tabOK rfl ?_
    repeat refine And.intro (by first | exact fun h => h | exact fun _ => rfl | (intro h; rw [h]; rfl) | omega | (intros; (try dsimp only [Ty.T, Ty.size]); (try simp only [castL_self, Int.toNat_natCast, Int.toNat_zero, Int.toNat_one, true_and, List.length_append, List.length_set, List.length_drop, List.length_take, List.length_replicate, List.length_cons, List.length_nil, Nat.zero_add, Nat.mul_one]); omega) | decide | (intros; simp_all; done) | (intros; simp_all; omega)) ?_
    refine Exists.intro _ (Exists.intro _ (And.intro (StepD.callG bothG_stays rfl hG0 (LiftsG.weaken (fun _ h => h.2) (views_fn P A N S f part)) rfl rfl rfl) (And.intro rfl (And.intro trivial ?_))))
    refine hK7 _ _ ?_
    clear hK7
    refine AWPD.seq fun K8 hK8 => ?_
    -- region 7
    try rw [hv0]
    refine AWPD.keep [1, 2, 3, 7, 8, 9, 10, 11] rfl ?_
    refine AWPD.region tabOK rfl ?_
    refine Exists.intro _ (Exists.intro _ (And.intro (StepD.callG bothG_stays rfl hG0 (LiftsG.weaken (fun _ h => h.1) (error_fn _ _)) rfl rfl rfl) (And.intro rfl (And.intro trivial ?_))))
    repeat refine And.intro (by first | exact fun h => h | exact fun _ => rfl | (intro h; rw [h]; rfl) | omega | (intros; (try dsimp only [Ty.T, Ty.size]); (try simp only [castL_self, Int.toNat_natCast, Int.toNat_zero, Int.toNat_one, true_and, List.length_append, List.length_set, List.length_drop, List.length_take, List.length_replicate, List.length_cons, List.length_nil, Nat.zero_add, Nat.mul_one]); omega) | decide | (intros; simp_all; done) | (intros; simp_all; omega)) ?_
    refine Exists.intro _ (Exists.intro _ (And.intro (fun hg => StepD.call (by first | exact ints_fn _ _ (by omega) | exact LiftsD.fit (ints_fn [] [] (by decide)) ⟨⟨rfl, rfl⟩, ⟨rfl, by decide⟩, trivial⟩) rfl rfl rfl) (And.intro (fun hf => rfl) (And.intro rfl (And.intro trivial ?_)))))
    repeat refine And.intro (by first | exact fun h => h | exact fun _ => rfl | (intro h; rw [h]; rfl) | omega | (intros; (try dsimp only [Ty.T, Ty.size]); (try simp only [castL_self, Int.toNat_natCast, Int.toNat_zero, Int.toNat_one, true_and, List.length_append, List.length_set, List.length_drop, List.length_take, List.length_replicate, List.length_cons, List.length_nil, Nat.zero_add, Nat.mul_one]); omega) | decide | (intros; simp_all; done) | (intros; simp_all; omega)) ?_
    refine hK8 _ _ ?_
    clear hK8
    refine AWPD.seq fun K9 hK9 => ?_
    -- region 8
    refine AWPD.keep [1, 2, 3, 7, 9, 12] rfl ?_
    refine AWPD.region tabOK rfl ?_
    repeat refine And.intro (by first | exact fun h => h | exact fun _ => rfl | (intro h; rw [h]; rfl) | omega | (intros; (try dsimp only [Ty.T, Ty.size]); (try simp only [castL_self, Int.toNat_natCast, Int.toNat_zero, Int.toNat_one, true_and, List.length_append, List.length_set, List.length_drop, List.length_take, List.length_replicate, List.length_cons, List.length_nil, Nat.zero_add, Nat.mul_one]); omega) | decide | (intros; simp_all; done) | (intros; simp_all; omega)) ?_
    refine Exists.intro _ (Exists.intro _ (And.intro (StepD.callG bothG_stays rfl hG0 (LiftsG.weaken (fun _ h => h.2) (holds_fn P A N S f part)) rfl rfl rfl) (And.intro rfl (And.intro trivial ?_))))
    refine hK9 _ _ ?_
    clear hK9
    refine AWPD.seq fun K10 hK10 => ?_
    -- region 9
    try rw [hhb]
    try rw [hhl]
    try rw [hb0]
    try rw [hh0]
    refine AWPD.keep [7, 9, 10, 11, 12, 13] rfl ?_
    refine AWPD.region tabOK rfl ?_
    repeat refine And.intro (by first | exact fun h => h | exact fun _ => rfl | (intro h; rw [h]; rfl) | omega | (intros; (try dsimp only [Ty.T, Ty.size]); (try simp only [castL_self, Int.toNat_natCast, Int.toNat_zero, Int.toNat_one, true_and, List.length_append, List.length_set, List.length_drop, List.length_take, List.length_replicate, List.length_cons, List.length_nil, Nat.zero_add, Nat.mul_one]); omega) | decide | (intros; simp_all; done) | (intros; simp_all; omega)) ?_
    refine Exists.intro _ (Exists.intro _ (And.intro (fun hg => StepD.callG bothG_stays rfl hG0 (LiftsG.weaken (fun _ h => h.1) (error_fn _ _)) rfl rfl rfl) (And.intro (fun hf => rfl) (And.intro rfl (And.intro trivial ?_)))))
    repeat refine And.intro (by first | exact fun h => h | exact fun _ => rfl | (intro h; rw [h]; rfl) | omega | (intros; (try dsimp only [Ty.T, Ty.size]); (try simp only [castL_self, Int.toNat_natCast, Int.toNat_zero, Int.toNat_one, true_and, List.length_append, List.length_set, List.length_drop, List.length_take, List.length_replicate, List.length_cons, List.length_nil, Nat.zero_add, Nat.mul_one]); omega) | decide | (intros; simp_all; done) | (intros; simp_all; omega)) ?_
    refine Exists.intro _ (Exists.intro _ (And.intro (fun hg => StepD.call (by first | exact ints_fn _ _ (by omega) | exact LiftsD.fit (ints_fn [] [] (by decide)) ⟨⟨rfl, rfl⟩, ⟨rfl, by decide⟩, trivial⟩) rfl rfl rfl) (And.intro (fun hf => rfl) (And.intro rfl (And.intro trivial ?_)))))
    repeat refine And.intro (by first | exact fun h => h | exact fun _ => rfl | (intro h; rw [h]; rfl) | omega | (intros; (try dsimp only [Ty.T, Ty.size]); (try simp only [castL_self, Int.toNat_natCast, Int.toNat_zero, Int.toNat_one, true_and, List.length_append, List.length_set, List.length_drop, List.length_take, List.length_replicate, List.length_cons, List.length_nil, Nat.zero_add, Nat.mul_one]); omega) | decide | (intros; simp_all; done) | (intros; simp_all; omega)) ?_
    refine hK10 _ _ ?_
    clear hK10
    refine AWPD.ret (And.intro (.inl rfl) ?_)
    -- result 0
    refine RetD.one ?_
    refine fitB rfl ?_
    simp [*]
  · try dsimp only [Ty.T] at h0
    try simp only [castL_self] at h0
    try simp only [Int.toNat_natCast] at h0
    try simp only [Int.toNat_zero] at h0
    have he : ¬chkE P A N S f part = 0 := h0
    have hv0 : viewsV P A N S f part = [] := by unfold viewsV; rw [if_neg he]
    have hh0 : holdsL P A N S f part = [] := by unfold holdsL; rw [if_neg he]
    have hb0 : holdsB P A N S f part = false := by unfold holdsB; rw [decide_eq_false he]; rfl
    refine AWPD.skip ?_
    refine hK4 _ _ ?_
    clear hK4
    refine AWPD.seq fun K11 hK11 => ?_
    -- region 6
    refine AWPD.keep [1, 2, 3, 7, 8, 9] rfl ?_
    refine AWPD.region tabOK rfl ?_
    repeat refine And.intro (by first | exact fun h => h | exact fun _ => rfl | (intro h; rw [h]; rfl) | omega | (intros; (try dsimp only [Ty.T, Ty.size]); (try simp only [castL_self, Int.toNat_natCast, Int.toNat_zero, Int.toNat_one, true_and, List.length_append, List.length_set, List.length_drop, List.length_take, List.length_replicate, List.length_cons, List.length_nil, Nat.zero_add, Nat.mul_one]); omega) | decide | (intros; simp_all; done) | (intros; simp_all; omega)) ?_
    refine Exists.intro _ (Exists.intro _ (And.intro (StepD.callG bothG_stays rfl hG0 (LiftsG.weaken (fun _ h => h.2) (views_fn P A N S f part)) rfl rfl rfl) (And.intro rfl (And.intro trivial ?_))))
    refine hK11 _ _ ?_
    clear hK11
    refine AWPD.seq fun K12 hK12 => ?_
    -- region 7
    try rw [hv0]
    refine AWPD.keep [1, 2, 3, 7, 8, 9, 10, 11] rfl ?_
    refine AWPD.region tabOK rfl ?_
    refine Exists.intro _ (Exists.intro _ (And.intro (StepD.callG bothG_stays rfl hG0 (LiftsG.weaken (fun _ h => h.1) (error_fn _ _)) rfl rfl rfl) (And.intro rfl (And.intro trivial ?_))))
    repeat refine And.intro (by first | exact fun h => h | exact fun _ => rfl | (intro h; rw [h]; rfl) | omega | (intros; (try dsimp only [Ty.T, Ty.size]); (try simp only [castL_self, Int.toNat_natCast, Int.toNat_zero, Int.toNat_one, true_and, List.length_append, List.length_set, List.length_drop, List.length_take, List.length_replicate, List.length_cons, List.length_nil, Nat.zero_add, Nat.mul_one]); omega) | decide | (intros; simp_all; done) | (intros; simp_all; omega)) ?_
    refine Exists.intro _ (Exists.intro _ (And.intro (fun hg => StepD.call (by first | exact ints_fn _ _ (by omega) | exact LiftsD.fit (ints_fn [] [] (by decide)) ⟨⟨rfl, rfl⟩, ⟨rfl, by decide⟩, trivial⟩) rfl rfl rfl) (And.intro (fun hf => rfl) (And.intro rfl (And.intro trivial ?_)))))
    repeat refine And.intro (by first | exact fun h => h | exact fun _ => rfl | (intro h; rw [h]; rfl) | omega | (intros; (try dsimp only [Ty.T, Ty.size]); (try simp only [castL_self, Int.toNat_natCast, Int.toNat_zero, Int.toNat_one, true_and, List.length_append, List.length_set, List.length_drop, List.length_take, List.length_replicate, List.length_cons, List.length_nil, Nat.zero_add, Nat.mul_one]); omega) | decide | (intros; simp_all; done) | (intros; simp_all; omega)) ?_
    refine hK12 _ _ ?_
    clear hK12
    refine AWPD.seq fun K13 hK13 => ?_
    -- region 8
    refine AWPD.keep [1, 2, 3, 7, 9, 12] rfl ?_
    refine AWPD.region tabOK rfl ?_
    repeat refine And.intro (by first | exact fun h => h | exact fun _ => rfl | (intro h; rw [h]; rfl) | omega | (intros; (try dsimp only [Ty.T, Ty.size]); (try simp only [castL_self, Int.toNat_natCast, Int.toNat_zero, Int.toNat_one, true_and, List.length_append, List.length_set, List.length_drop, List.length_take, List.length_replicate, List.length_cons, List.length_nil, Nat.zero_add, Nat.mul_one]); omega) | decide | (intros; simp_all; done) | (intros; simp_all; omega)) ?_
    refine Exists.intro _ (Exists.intro _ (And.intro (StepD.callG bothG_stays rfl hG0 (LiftsG.weaken (fun _ h => h.2) (holds_fn P A N S f part)) rfl rfl rfl) (And.intro rfl (And.intro trivial ?_))))
    refine hK13 _ _ ?_
    clear hK13
    refine AWPD.seq fun K14 hK14 => ?_
    -- region 9
    try rw [hhb]
    try rw [hhl]
    try rw [hb0]
    try rw [hh0]
    refine AWPD.keep [7, 9, 10, 11, 12, 13] rfl ?_
    refine AWPD.region tabOK rfl ?_
    repeat refine And.intro (by first | exact fun h => h | exact fun _ => rfl | (intro h; rw [h]; rfl) | omega | (intros; (try dsimp only [Ty.T, Ty.size]); (try simp only [castL_self, Int.toNat_natCast, Int.toNat_zero, Int.toNat_one, true_and, List.length_append, List.length_set, List.length_drop, List.length_take, List.length_replicate, List.length_cons, List.length_nil, Nat.zero_add, Nat.mul_one]); omega) | decide | (intros; simp_all; done) | (intros; simp_all; omega)) ?_
    refine Exists.intro _ (Exists.intro _ (And.intro (fun hg => StepD.callG bothG_stays rfl hG0 (LiftsG.weaken (fun _ h => h.1) (error_fn _ _)) rfl rfl rfl) (And.intro (fun hf => rfl) (And.intro rfl (And.intro trivial ?_)))))
    repeat refine And.intro (by first | exact fun h => h | exact fun _ => rfl | (intro h; rw [h]; rfl) | omega | (intros; (try dsimp only [Ty.T, Ty.size]); (try simp only [castL_self, Int.toNat_natCast, Int.toNat_zero, Int.toNat_one, true_and, List.length_append, List.length_set, List.length_drop, List.length_take, List.length_replicate, List.length_cons, List.length_nil, Nat.zero_add, Nat.mul_one]); omega) | decide | (intros; simp_all; done) | (intros; simp_all; omega)) ?_
    refine Exists.intro _ (Exists.intro _ (And.intro (fun hg => StepD.call (by first | exact ints_fn _ _ (by omega) | exact LiftsD.fit (ints_fn [] [] (by decide)) ⟨⟨rfl, rfl⟩, ⟨rfl, by decide⟩, trivial⟩) rfl rfl rfl) (And.intro (fun hf => rfl) (And.intro rfl (And.intro trivial ?_)))))
    repeat refine And.intro (by first | exact fun h => h | exact fun _ => rfl | (intro h; rw [h]; rfl) | omega | (intros; (try dsimp only [Ty.T, Ty.size]); (try simp only [castL_self, Int.toNat_natCast, Int.toNat_zero, Int.toNat_one, true_and, List.length_append, List.length_set, List.length_drop, List.length_take, List.length_replicate, List.length_cons, List.length_nil, Nat.zero_add, Nat.mul_one]); omega) | decide | (intros; simp_all; done) | (intros; simp_all; omega)) ?_
    refine hK14 _ _ ?_
    clear hK14
    refine AWPD.ret (And.intro (.inl rfl) ?_)
    -- result 1
    refine RetD.one ?_
    refine fitB rfl ?_
    simp [*]
end Go.Proofs.YtndoigkmdcgjfaaDoor
