/-
  WALK of the law AgreeSays.
-/
import Derived.Test.YtkdihpajgmiolaaDoorQwAs0
import Derived.Test.YtkdihpajgmiolaaDoorQwDt
namespace Go.Proofs.YtkdihpajgmiolaaDoor
open Go Go.Qw
set_option maxRecDepth 10000
set_option linter.unusedSimpArgs false
set_option linter.unusedVariables false
set_option linter.unusedSectionVars false
set_option maxHeartbeats 2000000


theorem talk_same {p q ws : List Int} {e w : Int} (h : pairE p q ws e w = 0) : foursF p q ws e.toNat w.toNat 0 (talkK p q ws e.toNat w.toNat + 1) = talkR p q ws e w := by
  unfold talkR
  rw [if_pos h, foursF_all]
theorem rsureW {p q ws : List Int} {e w : Int} (pr : Pair p q ws e w) : LiftsG Tryd.prog bothG 43 [.sl .int p, .sl .int ws, .i e, .i w] (.agg [.i (sureR p q ws e w).1, .i (sureR p q ws e w).2]) := by
  have hw := pr.wi
  have hem := pr.em
  have h := rsure_fn p ws e w.toNat pr.belP ⟨hem.1, hem.2.1⟩ (by omega)
  rw [← pr.sure, show ((w.toNat : Nat) : Int) = w by omega] at h
  exact LiftsG.weaken (fun _ h => h.2) h
theorem rtalkW {p q ws : List Int} {e w : Int} (h : pairE p q ws e w = 0) : LiftsG Tryd.prog bothG 45 [.sl .int p, .sl .int q, .sl .int ws, .i e, .i w] (.sl (.tup 4) (talkR p q ws e w)) := by
  have pr := pair_of h
  have hw := pr.wi
  have hem := pr.em
  have hwl := pr.wl
  have hww : w.toNat < ws.length := by omega
  have hT := talk_ends pr.belP pr.belQ e.toNat hww
  have hf := hT.few pr.belP pr.belQ hww
  have h12 := pr.wt.1
  have k := rtalk_fn p q ws e w.toNat pr.belP pr.belQ ⟨hem.1, hem.2.1⟩ hww (talkK p q ws e.toNat w.toNat) 0 (by omega) (by rw [Nat.zero_add]; exact hT)
  rw [talk_same h, show ((w.toNat : Nat) : Int) = w by omega] at k
  exact LiftsG.weaken (fun _ h => h.2) k
theorem talkR_len {p q ws : List Int} {e w : Int} (h : pairE p q ws e w = 0) : (talkR p q ws e w).length ≤ 100 := by
  have pr := pair_of h
  have hw := pr.wi
  have hwl := pr.wl
  have hww : w.toNat < ws.length := by omega
  have hf := (talk_ends pr.belP pr.belQ e.toNat hww).few pr.belP pr.belQ hww
  have h12 := pr.wt.1
  unfold talkR
  rw [if_pos h, foursL_len]
  omega

theorem fours_fn (a : List (List Int)) (hl : a.length ≤ 1000000) : LiftsD Tryd.prog 46 [.sl (.tup 4) a, .sl (.tup 4) a] (.b true) := by
  refine LiftsD.of_body 26 [.tmp 4] Tryd.func46 rfl Tryd.ntmps46 (by kernel_rfl) rfl rfl fun w0 X0 => ?_
  refine AWPD.seq fun K1 hK1 => ?_
  -- region 0
  refine AWPD.keep [0, 1] rfl ?_
  refine AWPD.region tabOK rfl ?_
  refine hK1 _ _ ?_
  clear hK1
  refine AWPD.seq fun K2 hK2 => ?_
  refine AWPD.seq fun K3 hK3 => ?_
  -- region 1
  refine AWPD.keep [0, 1] rfl ?_
  refine AWPD.region tabOK rfl ?_
  refine hK3 _ _ ?_
  clear hK3
  first | refine AWPD.condP rfl (fun h0 => ?_) (fun h0 => ?_) | refine AWPD.condN rfl (fun h0 => ?_) (fun h0 => ?_) | refine AWPD.condAP rfl (fun h0 => ?_) (fun h0 => ?_) | refine AWPD.condOP rfl (fun h0 => ?_) (fun h0 => ?_) | refine AWPD.condONN rfl (fun h0 => ?_) (fun h0 => ?_) | refine AWPD.condOPN rfl (fun h0 => ?_) (fun h0 => ?_) | refine AWPD.condA rfl (fun h0 => ?_) (fun h0 => ?_) | refine AWPD.condO rfl (fun h0 => ?_) (fun h0 => ?_) | refine AWPD.cond rfl (fun h0 => ?_) (fun h0 => ?_)
  · try dsimp only [Ty.T] at h0
    try simp only [castL_self] at h0
    try simp only [Int.toNat_natCast] at h0
    try simp only [Int.toNat_zero] at h0
    exact absurd rfl h0
  · try dsimp only [Ty.T] at h0
    try simp only [castL_self] at h0
    try simp only [Int.toNat_natCast] at h0
    try simp only [Int.toNat_zero] at h0
    refine AWPD.skip ?_
    refine hK2 _ _ ?_
    clear hK2
    refine AWPD.seq fun K4 hK4 => ?_
    refine AWPD.seq fun K5 hK5 => ?_
    -- region 3
    refine AWPD.keep [0, 1] rfl ?_
    refine AWPD.region tabOK rfl ?_
    refine hK5 _ _ ?_
    clear hK5
    refine AWPD.block ?_
    -- LOOP 0 live [0, 1, 5] changed [5]
    refine AWPD.loopK (σ := Nat) [0, 1] (fun i base => (5, .i (i : Int)) :: base) (fun _ => []) (fun n i => n + i = a.length) (a.length) 0 [] rfl rfl (by omega) (by decide) trivial (by repeat' first | exact True.intro | exact rfl | exact ⟨rfl, rfl⟩ | refine And.intro ?_ ?_) fun n0 i hI0 => ?_
    have hn0 := hI0
    refine AWPD.seq fun K6 hK6 => ?_
    refine AWPD.seq fun K7 hK7 => ?_
    -- region 4
    refine AWPD.keep [0, 1, 5] rfl ?_
    refine AWPD.region tabOK rfl ?_
    refine hK7 _ _ ?_
    clear hK7
    first | refine AWPD.condP rfl (fun h1 => ?_) (fun h1 => ?_) | refine AWPD.condN rfl (fun h1 => ?_) (fun h1 => ?_) | refine AWPD.condAP rfl (fun h1 => ?_) (fun h1 => ?_) | refine AWPD.condOP rfl (fun h1 => ?_) (fun h1 => ?_) | refine AWPD.condONN rfl (fun h1 => ?_) (fun h1 => ?_) | refine AWPD.condOPN rfl (fun h1 => ?_) (fun h1 => ?_) | refine AWPD.condA rfl (fun h1 => ?_) (fun h1 => ?_) | refine AWPD.condO rfl (fun h1 => ?_) (fun h1 => ?_) | refine AWPD.cond rfl (fun h1 => ?_) (fun h1 => ?_)
    · try dsimp only [Ty.T] at h1
      try simp only [castL_self] at h1
      try simp only [Int.toNat_natCast] at h1
      try simp only [Int.toNat_zero] at h1
      refine AWPD.skip ?_
      refine hK6 _ _ ?_
      clear hK6
      refine AWPD.seq fun K8 hK8 => ?_
      refine AWPD.block ?_
      refine AWPD.seq fun K9 hK9 => ?_
      -- region 6
      refine AWPD.keep [0, 1, 5] rfl ?_
      refine AWPD.draw tabOK [] rfl (by kernel_rfl) ?_
      repeat refine And.intro (by first | exact fun h => h | exact fun _ => rfl | (intro h; rw [h]; rfl) | omega | (intros; (try dsimp only [Ty.T, Ty.size]); (try simp only [castL_self, Int.toNat_natCast, Int.toNat_zero, Int.toNat_one, true_and, List.length_append, List.length_set, List.length_drop, List.length_take, List.length_replicate, List.length_cons, List.length_nil, Nat.zero_add, Nat.mul_one]); omega) | decide | (intros; simp_all; done) | (intros; simp_all; omega)) ?_
      refine hK9 _ _ ?_
      clear hK9
      first | refine AWPD.condP rfl (fun h2 => ?_) (fun h2 => ?_) | refine AWPD.cond rfl (fun h2 => ?_) (fun h2 => ?_)
      · try dsimp only [Ty.T] at h2
        try simp only [castL_self] at h2
        try simp only [Int.toNat_natCast] at h2
        try simp only [Int.toNat_zero] at h2
        exact absurd rfl h2
      · try dsimp only [Ty.T] at h2
        try simp only [castL_self] at h2
        try simp only [Int.toNat_natCast] at h2
        try simp only [Int.toNat_zero] at h2
        refine AWPD.skip ?_
        refine hK8 _ _ ?_
        clear hK8
        -- region 5
        refine AWPD.keep [0, 1, 5] rfl ?_
        refine AWPD.region tabOK rfl ?_
        repeat refine And.intro (by first | exact fun h => h | exact fun _ => rfl | (intro h; rw [h]; rfl) | omega | (intros; (try dsimp only [Ty.T, Ty.size]); (try simp only [castL_self, Int.toNat_natCast, Int.toNat_zero, Int.toNat_one, true_and, List.length_append, List.length_set, List.length_drop, List.length_take, List.length_replicate, List.length_cons, List.length_nil, Nat.zero_add, Nat.mul_one]); omega) | decide | (intros; simp_all; done) | (intros; simp_all; omega)) ?_
        refine ⟨n0 - 1, i + 1, [], by omega, by omega, ⟨by decide, rfl⟩, trivial, ?_⟩
        repeat' first | exact True.intro | exact rfl | exact ⟨rfl, rfl⟩ | refine And.intro ?_ ?_
    · try dsimp only [Ty.T] at h1
      try simp only [castL_self] at h1
      try simp only [Int.toNat_natCast] at h1
      try simp only [Int.toNat_zero] at h1
      refine AWPD.exit ?_
      refine hK4 _ _ ?_
      clear hK4
      refine AWPD.seq fun K10 hK10 => ?_
      -- region 8
      refine AWPD.keep [] rfl ?_
      refine AWPD.region tabOK rfl ?_
      refine hK10 _ _ ?_
      clear hK10
      refine AWPD.ret (And.intro (.inl rfl) ?_)
      -- result 0
      refine RetD.one ?_
      exact fitB rfl rfl
theorem agreeSays_fn (p q ws : List Int) (e w : Int) : LiftsG Tryd.prog bothG 9 [.sl .int p, .sl .int q, .sl .int ws, .i e, .i w] (.b true) := by
  refine LiftsG.of_body 115 [.tmp 10] Tryd.func9 rfl Tryd.ntmps9 (by kernel_rfl) rfl rfl fun w0 X0 hG0 => ?_
  refine AWPD.seq fun K1 hK1 => ?_
  -- region 0
  refine AWPD.keep [0, 1, 2, 3, 4] rfl ?_
  refine AWPD.region tabOK rfl ?_
  refine hK1 _ _ ?_
  clear hK1
  refine AWPD.seq fun K2 hK2 => ?_
  -- region 1
  refine AWPD.keep [0, 1, 2, 3, 4] rfl ?_
  refine AWPD.region tabOK rfl ?_
  refine Exists.intro _ (Exists.intro _ (And.intro (StepD.call (rpair_fn _ _ _ _ _) rfl rfl rfl) (And.intro rfl (And.intro trivial ?_))))
  refine hK2 _ _ ?_
  clear hK2
  refine AWPD.seq fun K3 hK3 => ?_
  -- region 2
  refine AWPD.keep [0, 1, 2, 3, 4, 11] rfl ?_
  refine AWPD.region tabOK rfl ?_
  refine Exists.intro _ (Exists.intro _ (And.intro (StepD.call (pair_fn _ _ _ _ _) rfl rfl rfl) (And.intro rfl (And.intro trivial ?_))))
  refine Exists.intro _ (Exists.intro _ (And.intro (StepD.callG bothG_stays rfl hG0 (LiftsG.weaken (fun _ h => h.1) (error_fn _ _)) rfl rfl rfl) (And.intro rfl (And.intro trivial ?_))))
  refine hK3 _ _ ?_
  clear hK3
  refine AWPD.seq fun K4 hK4 => ?_
  -- region 3
  refine AWPD.keep [0, 1, 2, 3, 4, 11, 12] rfl ?_
  refine AWPD.region tabOK rfl ?_
  refine hK4 _ _ ?_
  clear hK4
  refine AWPD.seq fun K5 hK5 => ?_
  -- region 4
  refine AWPD.keep [0, 1, 2, 3, 4, 11, 12, 13] rfl ?_
  refine AWPD.region tabOK rfl ?_
  refine hK5 _ _ ?_
  clear hK5
  refine AWPD.seq fun K6 hK6 => ?_
  -- region 5
  refine AWPD.keep [0, 1, 2, 3, 4, 11, 12, 13, 14] rfl ?_
  refine AWPD.region tabOK rfl ?_
  refine hK6 _ _ ?_
  clear hK6
  refine AWPD.seq fun K7 hK7 => ?_
  refine AWPD.seq fun K8 hK8 => ?_
  -- region 6
  refine AWPD.keep [0, 1, 2, 3, 4, 11, 12, 13, 14, 15] rfl ?_
  refine AWPD.region tabOK rfl ?_
  refine hK8 _ _ ?_
  clear hK8
  first | refine AWPD.condP rfl (fun h0 => ?_) (fun h0 => ?_) | refine AWPD.condN rfl (fun h0 => ?_) (fun h0 => ?_) | refine AWPD.condAP rfl (fun h0 => ?_) (fun h0 => ?_) | refine AWPD.condOP rfl (fun h0 => ?_) (fun h0 => ?_) | refine AWPD.condONN rfl (fun h0 => ?_) (fun h0 => ?_) | refine AWPD.condOPN rfl (fun h0 => ?_) (fun h0 => ?_) | refine AWPD.condA rfl (fun h0 => ?_) (fun h0 => ?_) | refine AWPD.condO rfl (fun h0 => ?_) (fun h0 => ?_) | refine AWPD.cond rfl (fun h0 => ?_) (fun h0 => ?_)
  · try dsimp only [Ty.T] at h0
    try simp only [castL_self] at h0
    try simp only [Int.toNat_natCast] at h0
    try simp only [Int.toNat_zero] at h0
    have hz : pairE p q ws e w = 0 := h0
    have pr := pair_of hz
    have htl := talkR_len hz
    refine AWPD.seq fun K9 hK9 => ?_
    -- region 7
    refine AWPD.keep [0, 1, 2, 3, 4, 11, 12, 13] rfl ?_
    refine AWPD.region tabOK rfl ?_
    refine Exists.intro _ (Exists.intro _ (And.intro (StepD.callG bothG_stays rfl hG0 (rsureW pr) rfl rfl rfl) (And.intro rfl (And.intro trivial ?_))))
    repeat refine And.intro (by first | exact fun h => h | exact fun _ => rfl | (intro h; rw [h]; rfl) | omega | (intros; (try dsimp only [Ty.T, Ty.size]); (try simp only [castL_self, Int.toNat_natCast, Int.toNat_zero, Int.toNat_one, true_and, List.length_append, List.length_set, List.length_drop, List.length_take, List.length_replicate, List.length_cons, List.length_nil, Nat.zero_add, Nat.mul_one]); omega) | decide | (intros; simp_all; done) | (intros; simp_all; omega)) ?_
    refine hK9 _ _ ?_
    clear hK9
    refine AWPD.seq fun K10 hK10 => ?_
    -- region 8
    refine AWPD.keep [0, 1, 2, 3, 4, 11, 12, 13] rfl ?_
    refine AWPD.region tabOK rfl ?_
    refine Exists.intro _ (Exists.intro _ (And.intro (StepD.callG bothG_stays rfl hG0 (LiftsG.weaken (fun _ h => h.2) (rknown_fn p q ws e w hz)) rfl rfl rfl) (And.intro rfl (And.intro trivial ?_))))
    refine hK10 _ _ ?_
    clear hK10
    -- region 9
    refine AWPD.keep [0, 1, 2, 3, 4, 11, 12, 13, 14] rfl ?_
    refine AWPD.region tabOK rfl ?_
    refine Exists.intro _ (Exists.intro _ (And.intro (StepD.callG bothG_stays rfl hG0 (rtalkW hz) rfl rfl rfl) (And.intro rfl (And.intro trivial ?_))))
    refine hK7 _ _ ?_
    clear hK7
    refine AWPD.seq fun K11 hK11 => ?_
    -- region 10
    refine AWPD.keep [0, 1, 2, 3, 4, 11, 12, 13, 14, 15] rfl ?_
    refine AWPD.region tabOK rfl ?_
    refine Exists.intro _ (Exists.intro _ (And.intro (StepD.callG bothG_stays rfl hG0 (LiftsG.weaken (fun _ h => h.2) (sureR_fn p q ws e w)) rfl rfl rfl) (And.intro rfl (And.intro trivial ?_))))
    repeat refine And.intro (by first | exact fun h => h | exact fun _ => rfl | (intro h; rw [h]; rfl) | omega | (intros; (try dsimp only [Ty.T, Ty.size]); (try simp only [castL_self, Int.toNat_natCast, Int.toNat_zero, Int.toNat_one, true_and, List.length_append, List.length_set, List.length_drop, List.length_take, List.length_replicate, List.length_cons, List.length_nil, Nat.zero_add, Nat.mul_one]); omega) | decide | (intros; simp_all; done) | (intros; simp_all; omega)) ?_
    refine hK11 _ _ ?_
    clear hK11
    refine AWPD.seq fun K12 hK12 => ?_
    -- region 11
    refine AWPD.keep [0, 1, 2, 3, 4, 11, 12, 13, 14, 15, 16, 17] rfl ?_
    refine AWPD.region tabOK rfl ?_
    refine Exists.intro _ (Exists.intro _ (And.intro (StepD.callG bothG_stays rfl hG0 (LiftsG.weaken (fun _ h => h.1) (error_fn _ _)) rfl rfl rfl) (And.intro rfl (And.intro trivial ?_))))
    repeat refine And.intro (by first | exact fun h => h | exact fun _ => rfl | (intro h; rw [h]; rfl) | omega | (intros; (try dsimp only [Ty.T, Ty.size]); (try simp only [castL_self, Int.toNat_natCast, Int.toNat_zero, Int.toNat_one, true_and, List.length_append, List.length_set, List.length_drop, List.length_take, List.length_replicate, List.length_cons, List.length_nil, Nat.zero_add, Nat.mul_one]); omega) | decide | (intros; simp_all; done) | (intros; simp_all; omega)) ?_
    refine hK12 _ _ ?_
    clear hK12
    refine AWPD.seq fun K13 hK13 => ?_
    -- region 12
    refine AWPD.keep [0, 1, 2, 3, 4, 11, 12, 14, 15, 18] rfl ?_
    refine AWPD.region tabOK rfl ?_
    refine Exists.intro _ (Exists.intro _ (And.intro (StepD.callG bothG_stays rfl hG0 (LiftsG.weaken (fun _ h => h.2) (knownR_fn p q ws e w)) rfl rfl rfl) (And.intro rfl (And.intro trivial ?_))))
    refine hK13 _ _ ?_
    clear hK13
    refine AWPD.seq fun K14 hK14 => ?_
    -- region 13
    refine AWPD.keep [0, 1, 2, 3, 4, 11, 12, 14, 15, 17, 18, 19] rfl ?_
    refine AWPD.region tabOK rfl ?_
    refine Exists.intro _ (Exists.intro _ (And.intro (StepD.callG bothG_stays rfl hG0 (LiftsG.weaken (fun _ h => h.1) (error_fn _ _)) rfl rfl rfl) (And.intro rfl (And.intro trivial ?_))))
    repeat refine And.intro (by first | exact fun h => h | exact fun _ => rfl | (intro h; rw [h]; rfl) | omega | (intros; (try dsimp only [Ty.T, Ty.size]); (try simp only [castL_self, Int.toNat_natCast, Int.toNat_zero, Int.toNat_one, true_and, List.length_append, List.length_set, List.length_drop, List.length_take, List.length_replicate, List.length_cons, List.length_nil, Nat.zero_add, Nat.mul_one]); omega) | decide | (intros; simp_all; done) | (intros; simp_all; omega)) ?_
    refine hK14 _ _ ?_
    clear hK14
    refine AWPD.seq fun K15 hK15 => ?_
    -- region 14
    refine AWPD.keep [0, 1, 2, 3, 4, 11, 12, 15, 18, 20] rfl ?_
    refine AWPD.region tabOK rfl ?_
    refine Exists.intro _ (Exists.intro _ (And.intro (StepD.callG bothG_stays rfl hG0 (LiftsG.weaken (fun _ h => h.2) (talk_fn p q ws e w)) rfl rfl rfl) (And.intro rfl (And.intro trivial ?_))))
    refine hK15 _ _ ?_
    clear hK15
    refine AWPD.seq fun K16 hK16 => ?_
    -- region 15
    try rw [ht0]
    refine AWPD.keep [11, 12, 15, 17, 18, 20, 21] rfl ?_
    refine AWPD.region tabOK rfl ?_
    repeat refine And.intro (by first | exact fun h => h | exact fun _ => rfl | (intro h; rw [h]; rfl) | omega | (intros; (try dsimp only [Ty.T, Ty.size]); (try simp only [castL_self, Int.toNat_natCast, Int.toNat_zero, Int.toNat_one, true_and, List.length_append, List.length_set, List.length_drop, List.length_take, List.length_replicate, List.length_cons, List.length_nil, Nat.zero_add, Nat.mul_one]); omega) | decide | (intros; simp_all; done) | (intros; simp_all; omega)) ?_
    refine Exists.intro _ (Exists.intro _ (And.intro (fun hg => StepD.callG bothG_stays rfl hG0 (LiftsG.weaken (fun _ h => h.1) (error_fn _ _)) rfl rfl rfl) (And.intro (fun hf => rfl) (And.intro rfl (And.intro trivial ?_)))))
    repeat refine And.intro (by first | exact fun h => h | exact fun _ => rfl | (intro h; rw [h]; rfl) | omega | (intros; (try dsimp only [Ty.T, Ty.size]); (try simp only [castL_self, Int.toNat_natCast, Int.toNat_zero, Int.toNat_one, true_and, List.length_append, List.length_set, List.length_drop, List.length_take, List.length_replicate, List.length_cons, List.length_nil, Nat.zero_add, Nat.mul_one]); omega) | decide | (intros; simp_all; done) | (intros; simp_all; omega)) ?_
    refine Exists.intro _ (Exists.intro _ (And.intro (fun hg => StepD.call (by first | exact fours_fn _ (by omega) | exact LiftsD.fit (fours_fn [] (by decide)) ⟨⟨rfl, rfl⟩, ⟨rfl, by decide⟩, trivial⟩) rfl rfl rfl) (And.intro (fun hf => rfl) (And.intro rfl (And.intro trivial ?_)))))
    repeat refine And.intro (by first | exact fun h => h | exact fun _ => rfl | (intro h; rw [h]; rfl) | omega | (intros; (try dsimp only [Ty.T, Ty.size]); (try simp only [castL_self, Int.toNat_natCast, Int.toNat_zero, Int.toNat_one, true_and, List.length_append, List.length_set, List.length_drop, List.length_take, List.length_replicate, List.length_cons, List.length_nil, Nat.zero_add, Nat.mul_one]); omega) | decide | (intros; simp_all; done) | (intros; simp_all; omega)) ?_
    refine hK16 _ _ ?_
    clear hK16
    refine AWPD.ret (And.intro (.inl rfl) ?_)
    -- result 0
    refine RetD.one ?_
    refine fitB rfl ?_
    simp [*]
  · try dsimp only [Ty.T] at h0
    try simp only [castL_self] at h0
    try simp only [Int.toNat_natCast] at h0
    try simp only [Int.toNat_zero] at h0
    have hnz : ¬pairE p q ws e w = 0 := h0
    have hs0 : sureR p q ws e w = (0, 0) := by unfold sureR; rw [if_neg hnz]
    have hk0 : knownR p q ws e w = false := by unfold knownR; rw [if_neg hnz]
    have ht0 : talkR p q ws e w = [] := by unfold talkR; rw [if_neg hnz]
    refine AWPD.skip ?_
    refine hK7 _ _ ?_
    clear hK7
    refine AWPD.seq fun K17 hK17 => ?_
    -- region 10
    refine AWPD.keep [0, 1, 2, 3, 4, 11, 12, 13, 14, 15] rfl ?_
    refine AWPD.region tabOK rfl ?_
    refine Exists.intro _ (Exists.intro _ (And.intro (StepD.callG bothG_stays rfl hG0 (LiftsG.weaken (fun _ h => h.2) (sureR_fn p q ws e w)) rfl rfl rfl) (And.intro rfl (And.intro trivial ?_))))
    repeat refine And.intro (by first | exact fun h => h | exact fun _ => rfl | (intro h; rw [h]; rfl) | omega | (intros; (try dsimp only [Ty.T, Ty.size]); (try simp only [castL_self, Int.toNat_natCast, Int.toNat_zero, Int.toNat_one, true_and, List.length_append, List.length_set, List.length_drop, List.length_take, List.length_replicate, List.length_cons, List.length_nil, Nat.zero_add, Nat.mul_one]); omega) | decide | (intros; simp_all; done) | (intros; simp_all; omega)) ?_
    refine hK17 _ _ ?_
    clear hK17
    refine AWPD.seq fun K18 hK18 => ?_
    -- region 11
    refine AWPD.keep [0, 1, 2, 3, 4, 11, 12, 13, 14, 15, 16, 17] rfl ?_
    refine AWPD.region tabOK rfl ?_
    refine Exists.intro _ (Exists.intro _ (And.intro (StepD.callG bothG_stays rfl hG0 (LiftsG.weaken (fun _ h => h.1) (error_fn _ _)) rfl rfl rfl) (And.intro rfl (And.intro trivial ?_))))
    repeat refine And.intro (by first | exact fun h => h | exact fun _ => rfl | (intro h; rw [h]; rfl) | omega | (intros; (try dsimp only [Ty.T, Ty.size]); (try simp only [castL_self, Int.toNat_natCast, Int.toNat_zero, Int.toNat_one, true_and, List.length_append, List.length_set, List.length_drop, List.length_take, List.length_replicate, List.length_cons, List.length_nil, Nat.zero_add, Nat.mul_one]); omega) | decide | (intros; simp_all; done) | (intros; simp_all; omega)) ?_
    refine hK18 _ _ ?_
    clear hK18
    refine AWPD.seq fun K19 hK19 => ?_
    -- region 12
    refine AWPD.keep [0, 1, 2, 3, 4, 11, 12, 14, 15, 18] rfl ?_
    refine AWPD.region tabOK rfl ?_
    refine Exists.intro _ (Exists.intro _ (And.intro (StepD.callG bothG_stays rfl hG0 (LiftsG.weaken (fun _ h => h.2) (knownR_fn p q ws e w)) rfl rfl rfl) (And.intro rfl (And.intro trivial ?_))))
    refine hK19 _ _ ?_
    clear hK19
    refine AWPD.seq fun K20 hK20 => ?_
    -- region 13
    refine AWPD.keep [0, 1, 2, 3, 4, 11, 12, 14, 15, 17, 18, 19] rfl ?_
    refine AWPD.region tabOK rfl ?_
    refine Exists.intro _ (Exists.intro _ (And.intro (StepD.callG bothG_stays rfl hG0 (LiftsG.weaken (fun _ h => h.1) (error_fn _ _)) rfl rfl rfl) (And.intro rfl (And.intro trivial ?_))))
    repeat refine And.intro (by first | exact fun h => h | exact fun _ => rfl | (intro h; rw [h]; rfl) | omega | (intros; (try dsimp only [Ty.T, Ty.size]); (try simp only [castL_self, Int.toNat_natCast, Int.toNat_zero, Int.toNat_one, true_and, List.length_append, List.length_set, List.length_drop, List.length_take, List.length_replicate, List.length_cons, List.length_nil, Nat.zero_add, Nat.mul_one]); omega) | decide | (intros; simp_all; done) | (intros; simp_all; omega)) ?_
    refine hK20 _ _ ?_
    clear hK20
    refine AWPD.seq fun K21 hK21 => ?_
    -- region 14
    refine AWPD.keep [0, 1, 2, 3, 4, 11, 12, 15, 18, 20] rfl ?_
    refine AWPD.region tabOK rfl ?_
    refine Exists.intro _ (Exists.intro _ (And.intro (StepD.callG bothG_stays rfl hG0 (LiftsG.weaken (fun _ h => h.2) (talk_fn p q ws e w)) rfl rfl rfl) (And.intro rfl (And.intro trivial ?_))))
    refine hK21 _ _ ?_
    clear hK21
    refine AWPD.seq fun K22 hK22 => ?_
    -- region 15
    try rw [ht0]
    refine AWPD.keep [11, 12, 15, 17, 18, 20, 21] rfl ?_
    refine AWPD.region tabOK rfl ?_
    repeat refine And.intro (by first | exact fun h => h | exact fun _ => rfl | (intro h; rw [h]; rfl) | omega | (intros; (try dsimp only [Ty.T, Ty.size]); (try simp only [castL_self, Int.toNat_natCast, Int.toNat_zero, Int.toNat_one, true_and, List.length_append, List.length_set, List.length_drop, List.length_take, List.length_replicate, List.length_cons, List.length_nil, Nat.zero_add, Nat.mul_one]); omega) | decide | (intros; simp_all; done) | (intros; simp_all; omega)) ?_
    refine Exists.intro _ (Exists.intro _ (And.intro (fun hg => StepD.callG bothG_stays rfl hG0 (LiftsG.weaken (fun _ h => h.1) (error_fn _ _)) rfl rfl rfl) (And.intro (fun hf => rfl) (And.intro rfl (And.intro trivial ?_)))))
    repeat refine And.intro (by first | exact fun h => h | exact fun _ => rfl | (intro h; rw [h]; rfl) | omega | (intros; (try dsimp only [Ty.T, Ty.size]); (try simp only [castL_self, Int.toNat_natCast, Int.toNat_zero, Int.toNat_one, true_and, List.length_append, List.length_set, List.length_drop, List.length_take, List.length_replicate, List.length_cons, List.length_nil, Nat.zero_add, Nat.mul_one]); omega) | decide | (intros; simp_all; done) | (intros; simp_all; omega)) ?_
    refine Exists.intro _ (Exists.intro _ (And.intro (fun hg => StepD.call (by first | exact fours_fn _ (by omega) | exact LiftsD.fit (fours_fn [] (by decide)) ⟨⟨rfl, rfl⟩, ⟨rfl, by decide⟩, trivial⟩) rfl rfl rfl) (And.intro (fun hf => rfl) (And.intro rfl (And.intro trivial ?_)))))
    repeat refine And.intro (by first | exact fun h => h | exact fun _ => rfl | (intro h; rw [h]; rfl) | omega | (intros; (try dsimp only [Ty.T, Ty.size]); (try simp only [castL_self, Int.toNat_natCast, Int.toNat_zero, Int.toNat_one, true_and, List.length_append, List.length_set, List.length_drop, List.length_take, List.length_replicate, List.length_cons, List.length_nil, Nat.zero_add, Nat.mul_one]); omega) | decide | (intros; simp_all; done) | (intros; simp_all; omega)) ?_
    refine hK22 _ _ ?_
    clear hK22
    refine AWPD.ret (And.intro (.inl rfl) ?_)
    -- result 1
    refine RetD.one ?_
    refine fitB rfl ?_
    simp [*]
end Go.Proofs.YtkdihpajgmiolaaDoor
