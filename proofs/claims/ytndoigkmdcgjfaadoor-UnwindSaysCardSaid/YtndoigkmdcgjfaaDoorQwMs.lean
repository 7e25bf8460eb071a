/-
  WALKS of the document's answer on what is reached, and of the law on machines, acts, policies, runs. Laid by a program of mine out of the operations, with the loops and results told by hand.
-/
import Derived.Test.YtndoigkmdcgjfaaDoorQwR3
namespace Go.Proofs.YtndoigkmdcgjfaaDoor
open Go Go.Qw
set_option maxRecDepth 10000
set_option linter.unusedSimpArgs false
set_option linter.unusedVariables false


def closedS (N : List (List Int)) (A : List Int) (set : Nat) : Prop := ∀ s a, s < N.length → a < A.length → set.testBit s = true → set.testBit ((N.getD s []).getD a 0).toNat = true
structure RS (N : List (List Int)) (set : Nat) : Prop where
  zero : set.testBit 0 = true
  sub : ∀ i, set.testBit i = true → (reachN N).testBit i = true
def cntS (N : List (List Int)) (set : Nat) : Nat := (List.range N.length).countP fun i => set.testBit i
theorem cntS_le (N : List (List Int)) (set : Nat) : cntS N set ≤ N.length := by
  have := List.countP_le_length (p := fun i => set.testBit i) (l := List.range N.length)
  simpa [cntS] using this
theorem GoodM.closed_reach {P : Int} {A : List Int} {N S : List (List Int)} (g : GoodM P A N S) {set : Nat} (h0 : set.testBit 0 = true) (hc : closedS N A set) : ∀ k x, x ∈ reO N k → set.testBit x.toNat = true
  | 0, x, hx => by
    rcases qAdd_mem.1 hx with h | h
    · cases h
    · subst h; exact h0
  | k + 1, x, hx => by
    rcases reI_mem.1 hx with h | ⟨j, hj, rfl⟩
    · exact g.closed_reach h0 hc k x h
    · have hat := g.reO_at k
      have hrow := g.rowN ((reO N k).getD k 0).toNat (by omega)
      refine hc _ j (by omega) (by omega) ?_
      by_cases hk : k < (reO N k).length
      · exact g.closed_reach h0 hc k _ (getD_mem hk 0)
      · rw [show (reO N k).getD k 0 = 0 by simp [List.getD, hk]]; exact h0
theorem RS.eq {P : Int} {A : List Int} {N S : List (List Int)} (g : GoodM P A N S) {set : Nat} (rs : RS N set) (hc : closedS N A set) : set = reachN N := by
  refine Nat.eq_of_testBit_eq fun i => ?_
  rw [Bool.eq_iff_iff]
  refine ⟨rs.sub i, fun h => ?_⟩
  have := (g.reach_bit (x := (i : Int)) (by omega)).1 (by simpa using h)
  simpa using g.closed_reach rs.zero hc _ _ this
theorem RS.lt {P : Int} {A : List Int} {N S : List (List Int)} (g : GoodM P A N S) {set : Nat} (rs : RS N set) : set < 65536 := by
  have h16 := g.reach_in
  refine Nat.lt_pow_two_of_testBit (n := 16) set fun i hi => ?_
  cases hb : set.testBit i with
  | false => rfl
  | true =>
    have := rs.sub i hb
    rw [Nat.testBit_lt_two_pow (Nat.lt_of_lt_of_le (show reachN N < 2 ^ 16 by omega) (Nat.pow_le_pow_right (by decide) hi))] at this
    cases this
structure RJ (N : List (List Int)) (A : List Int) (set0 set : Nat) (s a : Nat) : Prop where
  rs : RS N set
  sub : ∀ i, set0.testBit i = true → set.testBit i = true
  done : ∀ s' a', s' < s → a' < A.length → set0.testBit s' = true → set.testBit ((N.getD s' []).getD a' 0).toNat = true
  part : ∀ a', a' < a → set.testBit ((N.getD s []).getD a' 0).toNat = true
  still : closedS N A set0 → set = set0
  grow : set = set0 ∨ cntS N set0 < cntS N set
theorem RJ.start {N : List (List Int)} {A : List Int} {set : Nat} (h : RS N set) : RJ N A set set 0 0 :=
  ⟨h, fun _ h => h, fun _ _ h => by omega, fun _ h => by omega, fun _ => rfl, .inl rfl⟩
theorem or_bit {s n j : Nat} : (s ||| 2 ^ n).testBit j = true ↔ s.testBit j = true ∨ j = n := by
  rw [Nat.testBit_or, Bool.or_eq_true, Nat.testBit_two_pow, decide_eq_true_eq]
  exact or_congr Iff.rfl eq_comm
theorem or_had {s n : Nat} (h : s.testBit n = true) : s ||| 2 ^ n = s := Nat.eq_of_testBit_eq fun j => by
  rw [Bool.eq_iff_iff, or_bit]
  exact ⟨fun hh => hh.elim id (fun e => e ▸ h), .inl⟩
theorem cntS_grow {N : List (List Int)} {s n : Nat} (hn : n < N.length) (h : s.testBit n = false) : cntS N s < cntS N (s ||| 2 ^ n) :=
  countP_lt (p := fun i => s.testBit i) (q := fun i => (s ||| 2 ^ n).testBit i) (i := n) (fun x hx => or_bit.2 (.inl hx)) (or_bit.2 (.inr rfl)) h _ (List.mem_range.2 hn)
theorem RJ.step {P : Int} {A : List Int} {N S : List (List Int)} (g : GoodM P A N S) {set0 set s a : Nat} (h : RJ N A set0 set s a) (hs : s < N.length) (ha : a < A.length) (hb : set.testBit s = true) :
    RJ N A set0 (set ||| 2 ^ ((N.getD s []).getD a 0).toNat) s (a + 1) := by
  have hrow := g.rowN s hs
  have hnx := g.next s hs a (by omega)
  have hreach : (reachN N).testBit ((N.getD s []).getD a 0).toNat = true := by
    have h1 := (g.reach_bit (x := (s : Int)) (by omega)).1 (by simpa using h.rs.sub s hb)
    have h2 := g.reach_next h1 ha
    rw [Int.toNat_natCast] at h2
    exact (g.reach_bit (by omega)).2 h2
  refine ⟨⟨or_bit.2 (.inl h.rs.zero), fun i hi => ?_⟩, fun i hi => or_bit.2 (.inl (h.sub i hi)), fun s' a' h1 h2 h3 => or_bit.2 (.inl (h.done s' a' h1 h2 h3)), fun a' h1 => ?_, fun hc => ?_, ?_⟩
  · rcases or_bit.1 hi with h1 | h1
    · exact h.rs.sub i h1
    · subst h1; exact hreach
  · rcases Nat.lt_or_ge a' a with h2 | h2
    · exact or_bit.2 (.inl (h.part a' h2))
    · rw [show a' = a by omega]; exact or_bit.2 (.inr rfl)
  · have e := h.still hc
    rw [e] at hb ⊢
    exact or_had (hc s a hs ha hb)
  · cases hh : set.testBit ((N.getD s []).getD a 0).toNat with
    | true => rw [or_had hh]; exact h.grow
    | false =>
      have := cntS_grow (N := N) (s := set) (n := ((N.getD s []).getD a 0).toNat) (by omega) hh
      rcases h.grow with h1 | h1
      · right; rw [← h1]; exact this
      · right; omega
theorem RJ.next {N : List (List Int)} {A : List Int} {set0 set s a : Nat} (h : RJ N A set0 set s a) (he : a = A.length ∨ ¬set.testBit s = true) : RJ N A set0 set (s + 1) 0 := by
  refine ⟨h.rs, h.sub, fun s' a' h1 h2 h3 => ?_, fun a' h1 => by omega, h.still, h.grow⟩
  rcases Nat.lt_or_ge s' s with h4 | h4
  · exact h.done s' a' h4 h2 h3
  · have e : s' = s := by omega
    subst e
    rcases he with he | he
    · exact h.part a' (by omega)
    · exact absurd (h.sub _ h3) he
theorem RJ.fin {N : List (List Int)} {A : List Int} {set0 set k : Nat} (h : RJ N A set0 set N.length 0) (hk : closedS N A set0 ∨ k + 1 ≤ cntS N set0) : closedS N A set ∨ k + 1 + 1 ≤ cntS N set := by
  rcases hk with hk | hk
  · rw [h.still hk]; exact .inl hk
  · rcases h.grow with h1 | h1
    · left
      intro s a hs ha hb
      exact h.done s a hs ha (by rw [← h1]; exact hb)
    · right; omega
theorem cntS_pos {N : List (List Int)} (hN : 0 < N.length) {set : Nat} (h : set.testBit 0 = true) : 1 ≤ cntS N set := by
  unfold cntS
  exact List.countP_pos_iff.2 ⟨0, List.mem_range.2 hN, h⟩
theorem GoodM.rs_one {P : Int} {A : List Int} {N S : List (List Int)} (g : GoodM P A N S) : RS N 1 := by
  refine ⟨by decide, fun i hi => ?_⟩
  rw [Nat.testBit_one_eq_true_iff_self_eq_zero] at hi
  subst hi
  exact (g.reach_bit (Int.le_refl 0)).2 (reO_zero N _)

theorem rreached_fn (P : Int) (A : List Int) (N S : List (List Int)) (he : machE P A N S = 0) : LiftsD Tryd.prog 32 [.agg [.i P, .sl .int A, .sl (.sl .int) N, .sl (.sl .int) S]] (.i ((reachN N : Nat) : Int)) := by
  have g := mach_good he
  have g16 := g.few
  have gs := g.some
  have g6 := g.acts6
  refine LiftsD.of_body 44 [.tmp 2] Tryd.func32 rfl Tryd.ntmps32 (by kernel_rfl) rfl rfl fun w0 X0 => ?_
  refine AWPD.seq fun K1 hK1 => ?_
  -- region 0
  refine AWPD.keep [0] rfl ?_
  refine AWPD.region tabOK rfl ?_
  refine hK1 _ _ ?_
  clear hK1
  refine AWPD.seq fun K2 hK2 => ?_
  -- region 1
  refine AWPD.keep [1] rfl ?_
  refine AWPD.region tabOK rfl ?_
  refine hK2 _ _ ?_
  clear hK2
  refine AWPD.seq fun K3 hK3 => ?_
  refine AWPD.seq fun K4 hK4 => ?_
  -- region 2
  refine AWPD.keep [1, 3] rfl ?_
  refine AWPD.region tabOK rfl ?_
  refine hK4 _ _ ?_
  clear hK4
  refine AWPD.block ?_
  -- LOOP 0 live [1, 3, 4] changed [3, 4]
  refine AWPD.loopK (σ := Nat × Nat) [1] (fun l base => (3, .i ((l.2 : Nat) : Int)) :: (4, .i (l.1 : Int)) :: base) (fun _ => []) (fun n l => n + l.1 = N.length ∧ RS N l.2 ∧ (closedS N A l.2 ∨ l.1 + 1 ≤ cntS N l.2)) N.length (0, 1) [] rfl rfl (⟨rfl, g.rs_one, .inr (cntS_pos gs (by decide))⟩) (by decide) trivial (by repeat' first | exact True.intro | exact rfl | exact ⟨rfl, rfl⟩ | refine And.intro ?_ ?_) fun n0 l hI0 => ?_
  obtain ⟨hn0, hrs, hcl⟩ := hI0
  refine AWPD.seq fun K5 hK5 => ?_
  refine AWPD.seq fun K6 hK6 => ?_
  -- region 3
  refine AWPD.keep [1, 3, 4] rfl ?_
  refine AWPD.region tabOK rfl ?_
  repeat refine And.intro (by first | exact fun h => h | exact fun _ => rfl | (intro h; rw [h]; rfl) | omega | (intros; (try dsimp only [Ty.T, Ty.size]); (try simp only [castL_self, Int.toNat_natCast, Int.toNat_zero, Int.toNat_one, true_and, List.length_append, List.length_set, List.length_drop, List.length_take, List.length_replicate, List.length_cons, List.length_nil, Nat.zero_add, Nat.mul_one]); omega) | decide | (intros; simp_all; done) | (intros; simp_all; omega)) ?_
  refine hK6 _ _ ?_
  clear hK6
  first | refine AWPD.condP rfl (fun h0 => ?_) (fun h0 => ?_) | refine AWPD.condN rfl (fun h0 => ?_) (fun h0 => ?_) | refine AWPD.condAP rfl (fun h0 => ?_) (fun h0 => ?_) | refine AWPD.condOP rfl (fun h0 => ?_) (fun h0 => ?_) | refine AWPD.condONN rfl (fun h0 => ?_) (fun h0 => ?_) | refine AWPD.condOPN rfl (fun h0 => ?_) (fun h0 => ?_) | refine AWPD.condA rfl (fun h0 => ?_) (fun h0 => ?_) | refine AWPD.condO rfl (fun h0 => ?_) (fun h0 => ?_) | refine AWPD.cond rfl (fun h0 => ?_) (fun h0 => ?_)
  · try dsimp only [Ty.T] at h0
    try simp only [castL_self] at h0
    try simp only [Int.toNat_natCast] at h0
    try simp only [Int.toNat_zero] at h0
    refine AWPD.skip ?_
    refine hK5 _ _ ?_
    clear hK5
    refine AWPD.seq fun K7 hK7 => ?_
    refine AWPD.block ?_
    refine AWPD.seq fun K8 hK8 => ?_
    -- region 5
    refine AWPD.keep [1, 3, 4] rfl ?_
    refine AWPD.region tabOK rfl ?_
    refine hK8 _ _ ?_
    clear hK8
    refine AWPD.block ?_
    -- LOOP 1 live [1, 3, 4, 5] changed [3, 5]
    refine AWPD.loopK (σ := Nat × Nat) [1, 4] (fun q base => (3, .i ((q.2 : Nat) : Int)) :: (5, .i (q.1 : Int)) :: base) (fun _ => []) (fun n q => n + q.1 = N.length ∧ RJ N A l.2 q.2 q.1 0) N.length (0, l.2) [] rfl rfl (⟨rfl, RJ.start hrs⟩) (by decide) trivial (by repeat' first | exact True.intro | exact rfl | exact ⟨rfl, rfl⟩ | refine And.intro ?_ ?_) fun n1 q hI1 => ?_
    obtain ⟨hn1, hj1⟩ := hI1
    refine AWPD.seq fun K9 hK9 => ?_
    refine AWPD.seq fun K10 hK10 => ?_
    -- region 6
    refine AWPD.keep [1, 3, 4, 5] rfl ?_
    refine AWPD.region tabOK rfl ?_
    repeat refine And.intro (by first | exact fun h => h | exact fun _ => rfl | (intro h; rw [h]; rfl) | omega | (intros; (try dsimp only [Ty.T, Ty.size]); (try simp only [castL_self, Int.toNat_natCast, Int.toNat_zero, Int.toNat_one, true_and, List.length_append, List.length_set, List.length_drop, List.length_take, List.length_replicate, List.length_cons, List.length_nil, Nat.zero_add, Nat.mul_one]); omega) | decide | (intros; simp_all; done) | (intros; simp_all; omega)) ?_
    refine hK10 _ _ ?_
    clear hK10
    first | refine AWPD.condP rfl (fun h1 => ?_) (fun h1 => ?_) | refine AWPD.condN rfl (fun h1 => ?_) (fun h1 => ?_) | refine AWPD.condAP rfl (fun h1 => ?_) (fun h1 => ?_) | refine AWPD.condOP rfl (fun h1 => ?_) (fun h1 => ?_) | refine AWPD.condONN rfl (fun h1 => ?_) (fun h1 => ?_) | refine AWPD.condOPN rfl (fun h1 => ?_) (fun h1 => ?_) | refine AWPD.condA rfl (fun h1 => ?_) (fun h1 => ?_) | refine AWPD.condO rfl (fun h1 => ?_) (fun h1 => ?_) | refine AWPD.cond rfl (fun h1 => ?_) (fun h1 => ?_)
    · try dsimp only [Ty.T] at h1
      try simp only [castL_self] at h1
      try simp only [Int.toNat_natCast] at h1
      try simp only [Int.toNat_zero] at h1
      refine AWPD.skip ?_
      refine hK9 _ _ ?_
      clear hK9
      refine AWPD.seq fun K11 hK11 => ?_
      refine AWPD.block ?_
      refine AWPD.seq fun K12 hK12 => ?_
      -- region 8
      refine AWPD.keep [1, 3, 4, 5] rfl ?_
      refine AWPD.region tabOK rfl ?_
      refine hK12 _ _ ?_
      clear hK12
      refine AWPD.block ?_
      -- LOOP 2 live [1, 3, 4, 5, 6] changed [3, 6]
      refine AWPD.loopK (σ := Nat × Nat) [1, 4, 5] (fun r base => (3, .i ((r.2 : Nat) : Int)) :: (6, .i (r.1 : Int)) :: base) (fun _ => []) (fun n r => n + r.1 = A.length ∧ RJ N A l.2 r.2 q.1 r.1) A.length (0, q.2) [] rfl rfl (⟨rfl, hj1⟩) (by decide) trivial (by repeat' first | exact True.intro | exact rfl | exact ⟨rfl, rfl⟩ | refine And.intro ?_ ?_) fun n2 r hI2 => ?_
      obtain ⟨hn2, hj2⟩ := hI2
      refine AWPD.seq fun K13 hK13 => ?_
      refine AWPD.seq fun K14 hK14 => ?_
      -- region 9
      have hlt := hj2.rs.lt g
      refine AWPD.keep [1, 3, 4, 5, 6] rfl ?_
      refine AWPD.region tabOK rfl ?_
      repeat refine And.intro (by first | exact fun h => h | exact fun _ => rfl | (intro h; rw [h]; rfl) | omega | (intros; (try dsimp only [Ty.T, Ty.size]); (try simp only [castL_self, Int.toNat_natCast, Int.toNat_zero, Int.toNat_one, true_and, List.length_append, List.length_set, List.length_drop, List.length_take, List.length_replicate, List.length_cons, List.length_nil, Nat.zero_add, Nat.mul_one]); omega) | decide | (intros; simp_all; done) | (intros; simp_all; omega)) ?_
      refine Exists.intro _ (Exists.intro _ (And.intro (fun hg => StepD.call (bit_fn ((r.2 : Nat) : Int) (q.1 : Int) (by omega) (by omega)) rfl rfl rfl) (And.intro (fun hf => rfl) (And.intro rfl (And.intro trivial ?_)))))
      repeat refine And.intro (by first | exact fun h => h | exact fun _ => rfl | (intro h; rw [h]; rfl) | omega | (intros; (try dsimp only [Ty.T, Ty.size]); (try simp only [castL_self, Int.toNat_natCast, Int.toNat_zero, Int.toNat_one, true_and, List.length_append, List.length_set, List.length_drop, List.length_take, List.length_replicate, List.length_cons, List.length_nil, Nat.zero_add, Nat.mul_one]); omega) | decide | (intros; simp_all; done) | (intros; simp_all; omega)) ?_
      refine hK14 _ _ ?_
      clear hK14
      first | refine AWPD.condP rfl (fun h2 => ?_) (fun h2 => ?_) | refine AWPD.condN rfl (fun h2 => ?_) (fun h2 => ?_) | refine AWPD.condAP rfl (fun h2 => ?_) (fun h2 => ?_) | refine AWPD.condOP rfl (fun h2 => ?_) (fun h2 => ?_) | refine AWPD.condONN rfl (fun h2 => ?_) (fun h2 => ?_) | refine AWPD.condOPN rfl (fun h2 => ?_) (fun h2 => ?_) | refine AWPD.condA rfl (fun h2 => ?_) (fun h2 => ?_) | refine AWPD.condO rfl (fun h2 => ?_) (fun h2 => ?_) | refine AWPD.cond rfl (fun h2 => ?_) (fun h2 => ?_)
      · try dsimp only [Ty.T] at h2
        try simp only [castL_self] at h2
        try simp only [Int.toNat_natCast] at h2
        try simp only [Int.toNat_zero] at h2
        have hnx := g.next q.1 (by omega) r.1 (by have := g.rowN q.1 (by omega); omega)
        have hrow := g.rowN q.1 (by omega)
        refine AWPD.skip ?_
        refine hK13 _ _ ?_
        clear hK13
        refine AWPD.seq fun K15 hK15 => ?_
        refine AWPD.block ?_
        -- region 11
        refine AWPD.keep [1, 3, 4, 5, 6] rfl ?_
        refine AWPD.region tabOK rfl ?_
        repeat refine And.intro (by first | exact fun h => h | exact fun _ => rfl | (intro h; rw [h]; rfl) | omega | (intros; (try dsimp only [Ty.T, Ty.size]); (try simp only [castL_self, Int.toNat_natCast, Int.toNat_zero, Int.toNat_one, true_and, List.length_append, List.length_set, List.length_drop, List.length_take, List.length_replicate, List.length_cons, List.length_nil, Nat.zero_add, Nat.mul_one]); omega) | decide | (intros; simp_all; done) | (intros; simp_all; omega)) ?_
        refine Exists.intro _ (Exists.intro _ (And.intro (StepD.call (with_fn ((r.2 : Nat) : Int) ((N.getD q.1 []).getD r.1 0) (by omega) (by omega)) rfl rfl rfl) (And.intro rfl (And.intro trivial ?_))))
        refine hK15 _ _ ?_
        clear hK15
        -- region 10
        refine AWPD.keep [1, 3, 4, 5, 6] rfl ?_
        refine AWPD.region tabOK rfl ?_
        repeat refine And.intro (by first | exact fun h => h | exact fun _ => rfl | (intro h; rw [h]; rfl) | omega | (intros; (try dsimp only [Ty.T, Ty.size]); (try simp only [castL_self, Int.toNat_natCast, Int.toNat_zero, Int.toNat_one, true_and, List.length_append, List.length_set, List.length_drop, List.length_take, List.length_replicate, List.length_cons, List.length_nil, Nat.zero_add, Nat.mul_one]); omega) | decide | (intros; simp_all; done) | (intros; simp_all; omega)) ?_
        refine ⟨n2 - 1, (r.1 + 1, r.2 ||| 2 ^ ((N.getD q.1 []).getD r.1 0).toNat), [], by omega, ⟨by simp only []; omega, hj2.step g (by omega) (by omega) h2.2⟩, ⟨by decide, rfl⟩, trivial, ?_⟩
        repeat' first | exact True.intro | exact rfl | exact ⟨rfl, rfl⟩ | refine And.intro ?_ ?_
      · try dsimp only [Ty.T] at h2
        try simp only [castL_self] at h2
        try simp only [Int.toNat_natCast] at h2
        try simp only [Int.toNat_zero] at h2
        have hex : r.1 = A.length ∨ ¬r.2.testBit q.1 = true := by
          by_cases hh : r.1 = A.length
          · exact .inl hh
          · exact .inr (fun hb => h2 ⟨by omega, hb⟩)
        refine AWPD.exit ?_
        refine hK11 _ _ ?_
        clear hK11
        -- region 7
        refine AWPD.keep [1, 3, 4, 5] rfl ?_
        refine AWPD.region tabOK rfl ?_
        repeat refine And.intro (by first | exact fun h => h | exact fun _ => rfl | (intro h; rw [h]; rfl) | omega | (intros; (try dsimp only [Ty.T, Ty.size]); (try simp only [castL_self, Int.toNat_natCast, Int.toNat_zero, Int.toNat_one, true_and, List.length_append, List.length_set, List.length_drop, List.length_take, List.length_replicate, List.length_cons, List.length_nil, Nat.zero_add, Nat.mul_one]); omega) | decide | (intros; simp_all; done) | (intros; simp_all; omega)) ?_
        refine ⟨n1 - 1, (q.1 + 1, r.2), [], by omega, ⟨by simp only []; omega, hj2.next hex⟩, ⟨by decide, rfl⟩, trivial, ?_⟩
        repeat' first | exact True.intro | exact rfl | exact ⟨rfl, rfl⟩ | refine And.intro ?_ ?_
    · try dsimp only [Ty.T] at h1
      try simp only [castL_self] at h1
      try simp only [Int.toNat_natCast] at h1
      try simp only [Int.toNat_zero] at h1
      refine AWPD.exit ?_
      refine hK7 _ _ ?_
      clear hK7
      -- region 4
      refine AWPD.keep [1, 3, 4] rfl ?_
      refine AWPD.region tabOK rfl ?_
      repeat refine And.intro (by first | exact fun h => h | exact fun _ => rfl | (intro h; rw [h]; rfl) | omega | (intros; (try dsimp only [Ty.T, Ty.size]); (try simp only [castL_self, Int.toNat_natCast, Int.toNat_zero, Int.toNat_one, true_and, List.length_append, List.length_set, List.length_drop, List.length_take, List.length_replicate, List.length_cons, List.length_nil, Nat.zero_add, Nat.mul_one]); omega) | decide | (intros; simp_all; done) | (intros; simp_all; omega)) ?_
      refine ⟨n0 - 1, (l.1 + 1, q.2), [], by omega, ⟨by simp only []; omega, hj1.rs, RJ.fin (by rw [show N.length = q.1 by omega]; exact hj1) hcl⟩, ⟨by decide, rfl⟩, trivial, ?_⟩
      repeat' first | exact True.intro | exact rfl | exact ⟨rfl, rfl⟩ | refine And.intro ?_ ?_
  · try dsimp only [Ty.T] at h0
    try simp only [castL_self] at h0
    try simp only [Int.toNat_natCast] at h0
    try simp only [Int.toNat_zero] at h0
    refine AWPD.exit ?_
    refine hK3 _ _ ?_
    clear hK3
    refine AWPD.seq fun K16 hK16 => ?_
    -- region 12
    refine AWPD.keep [3] rfl ?_
    refine AWPD.region tabOK rfl ?_
    refine hK16 _ _ ?_
    clear hK16
    refine AWPD.ret (And.intro (.inl rfl) ?_)
    -- result 0
    refine RetD.one ?_
    exact fitI rfl (by
      have hcnt := cntS_le N l.2
      rcases hcl with h | h
      · rw [hrs.eq g h]
      · omega)
theorem machSays_fn (P : Int) (A : List Int) (N S : List (List Int)) (f : List Int) (s : Int) (w : List Int) : LiftsG Tryd.prog errG 8 [.agg [.i P, .sl .int A, .sl (.sl .int) N, .sl (.sl .int) S], .sl .int f, .i s, .sl .int w] (.b true) := by
  refine LiftsG.of_body 100 [.tmp 8] Tryd.func8 rfl Tryd.ntmps8 (by kernel_rfl) rfl rfl fun w0 X0 hG0 => ?_
  refine AWPD.seq fun K1 hK1 => ?_
  -- region 0
  refine AWPD.keep [0, 1, 2, 3] rfl ?_
  refine AWPD.region tabOK rfl ?_
  refine hK1 _ _ ?_
  clear hK1
  refine AWPD.seq fun K2 hK2 => ?_
  -- region 1
  refine AWPD.keep [1, 2, 3, 4] rfl ?_
  refine AWPD.region tabOK rfl ?_
  repeat refine And.intro (by first | exact fun h => h | exact fun _ => rfl | (intro h; rw [h]; rfl) | omega | (intros; (try dsimp only [Ty.T, Ty.size]); (try simp only [castL_self, Int.toNat_natCast, Int.toNat_zero, Int.toNat_one, true_and, List.length_append, List.length_set, List.length_drop, List.length_take, List.length_replicate, List.length_cons, List.length_nil, Nat.zero_add, Nat.mul_one]); omega) | decide | (intros; simp_all; done) | (intros; simp_all; omega)) ?_
  refine Exists.intro _ (Exists.intro _ (And.intro (StepD.call (rmach_fn _ _ _ _) rfl rfl rfl) (And.intro rfl (And.intro trivial ?_))))
  refine hK2 _ _ ?_
  clear hK2
  refine AWPD.seq fun K3 hK3 => ?_
  -- region 2
  refine AWPD.keep [1, 2, 3, 4, 9] rfl ?_
  refine AWPD.draw tabOK [] rfl (by kernel_rfl) ?_
  repeat refine And.intro (by first | exact fun h => h | exact fun _ => rfl | (intro h; rw [h]; rfl) | omega | (intros; (try dsimp only [Ty.T, Ty.size]); (try simp only [castL_self, Int.toNat_natCast, Int.toNat_zero, Int.toNat_one, true_and, List.length_append, List.length_set, List.length_drop, List.length_take, List.length_replicate, List.length_cons, List.length_nil, Nat.zero_add, Nat.mul_one]); omega) | decide | (intros; simp_all; done) | (intros; simp_all; omega)) ?_
  refine Exists.intro _ (Exists.intro _ (And.intro (StepD.call (check_fn _ _ _ _) rfl rfl rfl) (And.intro rfl (And.intro rfl ?_))))
  refine Exists.intro _ (Exists.intro _ (And.intro (StepD.callG errG_stays rfl hG0 (error_fn _ _) rfl rfl rfl) (And.intro rfl (And.intro rfl ?_))))
  repeat refine And.intro (by first | exact fun h => h | exact fun _ => rfl | (intro h; rw [h]; rfl) | omega | (intros; (try dsimp only [Ty.T, Ty.size]); (try simp only [castL_self, Int.toNat_natCast, Int.toNat_zero, Int.toNat_one, true_and, List.length_append, List.length_set, List.length_drop, List.length_take, List.length_replicate, List.length_cons, List.length_nil, Nat.zero_add, Nat.mul_one]); omega) | decide | (intros; simp_all; done) | (intros; simp_all; omega)) ?_
  refine Exists.intro _ (Exists.intro _ (And.intro (fun hg => StepD.call (policy_fn _ _ _ _ _) rfl rfl rfl) (And.intro (fun hf => rfl) (And.intro rfl (And.intro rfl ?_)))))
  repeat refine And.intro (by first | exact fun h => h | exact fun _ => rfl | (intro h; rw [h]; rfl) | omega | (intros; (try dsimp only [Ty.T, Ty.size]); (try simp only [castL_self, Int.toNat_natCast, Int.toNat_zero, Int.toNat_one, true_and, List.length_append, List.length_set, List.length_drop, List.length_take, List.length_replicate, List.length_cons, List.length_nil, Nat.zero_add, Nat.mul_one]); omega) | decide | (intros; simp_all; done) | (intros; simp_all; omega)) ?_
  refine Exists.intro _ (Exists.intro _ (And.intro (fun hg => StepD.call (rpol_fn _ _ _ _ _) rfl rfl rfl) (And.intro (fun hf => rfl) (And.intro rfl (And.intro rfl ?_)))))
  repeat refine And.intro (by first | exact fun h => h | exact fun _ => rfl | (intro h; rw [h]; rfl) | omega | (intros; (try dsimp only [Ty.T, Ty.size]); (try simp only [castL_self, Int.toNat_natCast, Int.toNat_zero, Int.toNat_one, true_and, List.length_append, List.length_set, List.length_drop, List.length_take, List.length_replicate, List.length_cons, List.length_nil, Nat.zero_add, Nat.mul_one]); omega) | decide | (intros; simp_all; done) | (intros; simp_all; omega)) ?_
  refine Exists.intro _ (Exists.intro _ (And.intro (fun hg => StepD.callG errG_stays rfl hG0 (error_fn _ _) rfl rfl rfl) (And.intro (fun hf => rfl) (And.intro rfl (And.intro rfl ?_)))))
  repeat refine And.intro (by first | exact fun h => h | exact fun _ => rfl | (intro h; rw [h]; rfl) | omega | (intros; (try dsimp only [Ty.T, Ty.size]); (try simp only [castL_self, Int.toNat_natCast, Int.toNat_zero, Int.toNat_one, true_and, List.length_append, List.length_set, List.length_drop, List.length_take, List.length_replicate, List.length_cons, List.length_nil, Nat.zero_add, Nat.mul_one]); omega) | decide | (intros; simp_all; done) | (intros; simp_all; omega)) ?_
  refine hK3 _ _ ?_
  clear hK3
  refine AWPD.seq fun K4 hK4 => ?_
  -- region 3
  refine AWPD.keep [2, 3, 4, 9, 10] rfl ?_
  refine AWPD.region tabOK rfl ?_
  refine hK4 _ _ ?_
  clear hK4
  refine AWPD.seq fun K5 hK5 => ?_
  refine AWPD.seq fun K6 hK6 => ?_
  -- region 4
  refine AWPD.keep [2, 3, 4, 9, 10, 11] rfl ?_
  refine AWPD.region tabOK rfl ?_
  refine hK6 _ _ ?_
  clear hK6
  first | refine AWPD.condP rfl (fun h0 => ?_) (fun h0 => ?_) | refine AWPD.condN rfl (fun h0 => ?_) (fun h0 => ?_) | refine AWPD.condAP rfl (fun h0 => ?_) (fun h0 => ?_) | refine AWPD.condOP rfl (fun h0 => ?_) (fun h0 => ?_) | refine AWPD.condONN rfl (fun h0 => ?_) (fun h0 => ?_) | refine AWPD.condOPN rfl (fun h0 => ?_) (fun h0 => ?_) | refine AWPD.condA rfl (fun h0 => ?_) (fun h0 => ?_) | refine AWPD.condO rfl (fun h0 => ?_) (fun h0 => ?_) | refine AWPD.cond rfl (fun h0 => ?_) (fun h0 => ?_)
  · try dsimp only [Ty.T] at h0
    try simp only [castL_self] at h0
    try simp only [Int.toNat_natCast] at h0
    try simp only [Int.toNat_zero] at h0
    have hR : reachV P A N S = ((reachN N : Nat) : Int) := by unfold reachV; rw [if_pos h0]
    -- region 5
    refine AWPD.keep [2, 3, 4, 9, 10] rfl ?_
    refine AWPD.region tabOK rfl ?_
    repeat refine And.intro (by first | exact fun h => h | exact fun _ => rfl | (intro h; rw [h]; rfl) | omega | (intros; (try dsimp only [Ty.T, Ty.size]); (try simp only [castL_self, Int.toNat_natCast, Int.toNat_zero, Int.toNat_one, true_and, List.length_append, List.length_set, List.length_drop, List.length_take, List.length_replicate, List.length_cons, List.length_nil, Nat.zero_add, Nat.mul_one]); omega) | decide | (intros; simp_all; done) | (intros; simp_all; omega)) ?_
    refine Exists.intro _ (Exists.intro _ (And.intro (StepD.call (rreached_fn _ _ _ _ (by assumption)) rfl rfl rfl) (And.intro rfl (And.intro trivial ?_))))
    refine hK5 _ _ ?_
    clear hK5
    refine AWPD.seq fun K7 hK7 => ?_
    -- region 6
    refine AWPD.keep [2, 3, 4, 9, 10, 11] rfl ?_
    refine AWPD.region tabOK rfl ?_
    repeat refine And.intro (by first | exact fun h => h | exact fun _ => rfl | (intro h; rw [h]; rfl) | omega | (intros; (try dsimp only [Ty.T, Ty.size]); (try simp only [castL_self, Int.toNat_natCast, Int.toNat_zero, Int.toNat_one, true_and, List.length_append, List.length_set, List.length_drop, List.length_take, List.length_replicate, List.length_cons, List.length_nil, Nat.zero_add, Nat.mul_one]); omega) | decide | (intros; simp_all; done) | (intros; simp_all; omega)) ?_
    refine Exists.intro _ (Exists.intro _ (And.intro (StepD.call (reached_fn _ _ _ _) rfl rfl rfl) (And.intro rfl (And.intro trivial ?_))))
    refine hK7 _ _ ?_
    clear hK7
    refine AWPD.seq fun K8 hK8 => ?_
    -- region 7
    refine AWPD.keep [2, 3, 4, 9, 10, 11, 12, 13] rfl ?_
    refine AWPD.region tabOK rfl ?_
    refine Exists.intro _ (Exists.intro _ (And.intro (StepD.callG errG_stays rfl hG0 (error_fn _ _) rfl rfl rfl) (And.intro rfl (And.intro trivial ?_))))
    repeat refine And.intro (by first | exact fun h => h | exact fun _ => rfl | (intro h; rw [h]; rfl) | omega | (intros; (try dsimp only [Ty.T, Ty.size]); (try simp only [castL_self, Int.toNat_natCast, Int.toNat_zero, Int.toNat_one, true_and, List.length_append, List.length_set, List.length_drop, List.length_take, List.length_replicate, List.length_cons, List.length_nil, Nat.zero_add, Nat.mul_one]); omega) | decide | (intros; simp_all; done) | (intros; simp_all; omega)) ?_
    refine hK8 _ _ ?_
    clear hK8
    refine AWPD.seq fun K9 hK9 => ?_
    -- region 8
    refine AWPD.keep [2, 3, 4, 10, 14] rfl ?_
    refine AWPD.region tabOK rfl ?_
    repeat refine And.intro (by first | exact fun h => h | exact fun _ => rfl | (intro h; rw [h]; rfl) | omega | (intros; (try dsimp only [Ty.T, Ty.size]); (try simp only [castL_self, Int.toNat_natCast, Int.toNat_zero, Int.toNat_one, true_and, List.length_append, List.length_set, List.length_drop, List.length_take, List.length_replicate, List.length_cons, List.length_nil, Nat.zero_add, Nat.mul_one]); omega) | decide | (intros; simp_all; done) | (intros; simp_all; omega)) ?_
    refine Exists.intro _ (Exists.intro _ (And.intro (StepD.call (rword_fn _ _ _ _ _) rfl rfl rfl) (And.intro rfl (And.intro trivial ?_))))
    refine hK9 _ _ ?_
    clear hK9
    refine AWPD.seq fun K10 hK10 => ?_
    -- region 9
    refine AWPD.keep [2, 3, 4, 9, 10, 14] rfl ?_
    refine AWPD.region tabOK rfl ?_
    repeat refine And.intro (by first | exact fun h => h | exact fun _ => rfl | (intro h; rw [h]; rfl) | omega | (intros; (try dsimp only [Ty.T, Ty.size]); (try simp only [castL_self, Int.toNat_natCast, Int.toNat_zero, Int.toNat_one, true_and, List.length_append, List.length_set, List.length_drop, List.length_take, List.length_replicate, List.length_cons, List.length_nil, Nat.zero_add, Nat.mul_one]); omega) | decide | (intros; simp_all; done) | (intros; simp_all; omega)) ?_
    refine Exists.intro _ (Exists.intro _ (And.intro (StepD.call (word_fn _ _ _ _ _) rfl rfl rfl) (And.intro rfl (And.intro trivial ?_))))
    refine Exists.intro _ (Exists.intro _ (And.intro (StepD.callG errG_stays rfl hG0 (error_fn _ _) rfl rfl rfl) (And.intro rfl (And.intro trivial ?_))))
    refine hK10 _ _ ?_
    clear hK10
    refine AWPD.seq fun K11 hK11 => ?_
    refine AWPD.seq fun K12 hK12 => ?_
    -- region 10
    refine AWPD.keep [2, 3, 4, 9, 10, 14, 15] rfl ?_
    refine AWPD.region tabOK rfl ?_
    repeat refine And.intro (by first | exact fun h => h | exact fun _ => rfl | (intro h; rw [h]; rfl) | omega | (intros; (try dsimp only [Ty.T, Ty.size]); (try simp only [castL_self, Int.toNat_natCast, Int.toNat_zero, Int.toNat_one, true_and, List.length_append, List.length_set, List.length_drop, List.length_take, List.length_replicate, List.length_cons, List.length_nil, Nat.zero_add, Nat.mul_one]); omega) | decide | (intros; simp_all; done) | (intros; simp_all; omega)) ?_
    refine hK12 _ _ ?_
    clear hK12
    first | refine AWPD.cond rfl (fun h1 => ?_) (fun h1 => ?_)
    · try dsimp only [Ty.T] at h1
      try simp only [castL_self] at h1
      try simp only [Int.toNat_natCast] at h1
      try simp only [Int.toNat_zero] at h1
      have hw0 : wordE P A N S w = 0 := by
        by_cases hz : wordE P A N S w = 0
        · exact hz
        · simp [hz] at h1
      have hr1 : runE P A N S s w = 1 := by
        unfold runE
        rw [if_neg (fun h => h hw0), if_neg (fun hp => by simp [hw0] at h1; omega)]
      have hr : runE P A N S s w = 1 ∧ runV P A N S s w = 0 := ⟨hr1, by unfold runV; rw [hr1]; rfl⟩
      -- region 11
      refine AWPD.keep [2, 3, 4, 10, 14, 15] rfl ?_
      refine AWPD.region tabOK rfl ?_
      refine hK11 _ _ ?_
      clear hK11
      refine AWPD.seq fun K13 hK13 => ?_
      -- region 12
      refine AWPD.keep [2, 3, 4, 9, 10, 14, 15] rfl ?_
      refine AWPD.region tabOK rfl ?_
      refine hK13 _ _ ?_
      clear hK13
      refine AWPD.seq fun K14 hK14 => ?_
      refine AWPD.seq fun K15 hK15 => ?_
      -- region 13
      refine AWPD.keep [2, 3, 4, 9, 10, 14, 15, 16] rfl ?_
      refine AWPD.region tabOK rfl ?_
      refine hK15 _ _ ?_
      clear hK15
      first | refine AWPD.condP rfl (fun h2 => ?_) (fun h2 => ?_) | refine AWPD.condN rfl (fun h2 => ?_) (fun h2 => ?_) | refine AWPD.condAP rfl (fun h2 => ?_) (fun h2 => ?_) | refine AWPD.condOP rfl (fun h2 => ?_) (fun h2 => ?_) | refine AWPD.condONN rfl (fun h2 => ?_) (fun h2 => ?_) | refine AWPD.condOPN rfl (fun h2 => ?_) (fun h2 => ?_) | refine AWPD.condA rfl (fun h2 => ?_) (fun h2 => ?_) | refine AWPD.condO rfl (fun h2 => ?_) (fun h2 => ?_) | refine AWPD.cond rfl (fun h2 => ?_) (fun h2 => ?_)
      · try dsimp only [Ty.T] at h2
        try simp only [castL_self] at h2
        try simp only [Int.toNat_natCast] at h2
        try simp only [Int.toNat_zero] at h2
        have he0 : runE P A N S s w = 0 := by first | exact absurd h2 (by decide) | exact (hr' h2).1
        -- region 14
        refine AWPD.keep [2, 3, 4, 9, 10, 14, 15] rfl ?_
        refine AWPD.region tabOK rfl ?_
        repeat refine And.intro (by first | exact fun h => h | exact fun _ => rfl | (intro h; rw [h]; rfl) | omega | (intros; (try dsimp only [Ty.T, Ty.size]); (try simp only [castL_self, Int.toNat_natCast, Int.toNat_zero, Int.toNat_one, true_and, List.length_append, List.length_set, List.length_drop, List.length_take, List.length_replicate, List.length_cons, List.length_nil, Nat.zero_add, Nat.mul_one]); omega) | decide | (intros; simp_all; done) | (intros; simp_all; omega)) ?_
        refine Exists.intro _ (Exists.intro _ (And.intro (StepD.call (rrun_fn _ _ _ _ _ _ (by assumption)) rfl rfl rfl) (And.intro rfl (And.intro trivial ?_))))
        refine hK14 _ _ ?_
        clear hK14
        refine AWPD.seq fun K16 hK16 => ?_
        -- region 15
        refine AWPD.keep [2, 3, 4, 9, 10, 14, 15, 16] rfl ?_
        refine AWPD.region tabOK rfl ?_
        repeat refine And.intro (by first | exact fun h => h | exact fun _ => rfl | (intro h; rw [h]; rfl) | omega | (intros; (try dsimp only [Ty.T, Ty.size]); (try simp only [castL_self, Int.toNat_natCast, Int.toNat_zero, Int.toNat_one, true_and, List.length_append, List.length_set, List.length_drop, List.length_take, List.length_replicate, List.length_cons, List.length_nil, Nat.zero_add, Nat.mul_one]); omega) | decide | (intros; simp_all; done) | (intros; simp_all; omega)) ?_
        refine Exists.intro _ (Exists.intro _ (And.intro (StepD.call (run_fn _ _ _ _ _ _) rfl rfl rfl) (And.intro rfl (And.intro trivial ?_))))
        refine hK16 _ _ ?_
        clear hK16
        refine AWPD.seq fun K17 hK17 => ?_
        -- region 16
        refine AWPD.keep [9, 10, 12, 13, 14, 15, 16] rfl ?_
        refine AWPD.region tabOK rfl ?_
        repeat refine And.intro (by first | exact fun h => h | exact fun _ => rfl | (intro h; rw [h]; rfl) | omega | (intros; (try dsimp only [Ty.T, Ty.size]); (try simp only [castL_self, Int.toNat_natCast, Int.toNat_zero, Int.toNat_one, true_and, List.length_append, List.length_set, List.length_drop, List.length_take, List.length_replicate, List.length_cons, List.length_nil, Nat.zero_add, Nat.mul_one]); omega) | decide | (intros; simp_all; done) | (intros; simp_all; omega)) ?_
        refine Exists.intro _ (Exists.intro _ (And.intro (fun hg => StepD.callG errG_stays rfl hG0 (error_fn _ _) rfl rfl rfl) (And.intro (fun hf => rfl) (And.intro rfl (And.intro trivial ?_)))))
        repeat refine And.intro (by first | exact fun h => h | exact fun _ => rfl | (intro h; rw [h]; rfl) | omega | (intros; (try dsimp only [Ty.T, Ty.size]); (try simp only [castL_self, Int.toNat_natCast, Int.toNat_zero, Int.toNat_one, true_and, List.length_append, List.length_set, List.length_drop, List.length_take, List.length_replicate, List.length_cons, List.length_nil, Nat.zero_add, Nat.mul_one]); omega) | decide | (intros; simp_all; done) | (intros; simp_all; omega)) ?_
        refine hK17 _ _ ?_
        clear hK17
        refine AWPD.ret (And.intro (.inl rfl) ?_)
        -- result 0
        refine RetD.one ?_
        refine fitB rfl ?_
        first
          | (exfalso; exact absurd h2 (by decide))
          | (rw [hr.1, hr.2, hR]; simp; done)
          | (obtain ⟨a, b⟩ := hr' h2; rw [a, b, hR]; simp [h2]; done)
          | (obtain ⟨a, b⟩ := hr h2; rw [a, b, hR]; simp; done)
      · try dsimp only [Ty.T] at h2
        try simp only [castL_self] at h2
        try simp only [Int.toNat_natCast] at h2
        try simp only [Int.toNat_zero] at h2
        refine AWPD.skip ?_
        refine hK14 _ _ ?_
        clear hK14
        refine AWPD.seq fun K18 hK18 => ?_
        -- region 15
        refine AWPD.keep [2, 3, 4, 9, 10, 14, 15, 16] rfl ?_
        refine AWPD.region tabOK rfl ?_
        repeat refine And.intro (by first | exact fun h => h | exact fun _ => rfl | (intro h; rw [h]; rfl) | omega | (intros; (try dsimp only [Ty.T, Ty.size]); (try simp only [castL_self, Int.toNat_natCast, Int.toNat_zero, Int.toNat_one, true_and, List.length_append, List.length_set, List.length_drop, List.length_take, List.length_replicate, List.length_cons, List.length_nil, Nat.zero_add, Nat.mul_one]); omega) | decide | (intros; simp_all; done) | (intros; simp_all; omega)) ?_
        refine Exists.intro _ (Exists.intro _ (And.intro (StepD.call (run_fn _ _ _ _ _ _) rfl rfl rfl) (And.intro rfl (And.intro trivial ?_))))
        refine hK18 _ _ ?_
        clear hK18
        refine AWPD.seq fun K19 hK19 => ?_
        -- region 16
        refine AWPD.keep [9, 10, 12, 13, 14, 15, 16] rfl ?_
        refine AWPD.region tabOK rfl ?_
        repeat refine And.intro (by first | exact fun h => h | exact fun _ => rfl | (intro h; rw [h]; rfl) | omega | (intros; (try dsimp only [Ty.T, Ty.size]); (try simp only [castL_self, Int.toNat_natCast, Int.toNat_zero, Int.toNat_one, true_and, List.length_append, List.length_set, List.length_drop, List.length_take, List.length_replicate, List.length_cons, List.length_nil, Nat.zero_add, Nat.mul_one]); omega) | decide | (intros; simp_all; done) | (intros; simp_all; omega)) ?_
        refine Exists.intro _ (Exists.intro _ (And.intro (fun hg => StepD.callG errG_stays rfl hG0 (error_fn _ _) rfl rfl rfl) (And.intro (fun hf => rfl) (And.intro rfl (And.intro trivial ?_)))))
        repeat refine And.intro (by first | exact fun h => h | exact fun _ => rfl | (intro h; rw [h]; rfl) | omega | (intros; (try dsimp only [Ty.T, Ty.size]); (try simp only [castL_self, Int.toNat_natCast, Int.toNat_zero, Int.toNat_one, true_and, List.length_append, List.length_set, List.length_drop, List.length_take, List.length_replicate, List.length_cons, List.length_nil, Nat.zero_add, Nat.mul_one]); omega) | decide | (intros; simp_all; done) | (intros; simp_all; omega)) ?_
        refine hK19 _ _ ?_
        clear hK19
        refine AWPD.ret (And.intro (.inl rfl) ?_)
        -- result 1
        refine RetD.one ?_
        refine fitB rfl ?_
        first
          | (exfalso; exact absurd h2 (by decide))
          | (rw [hr.1, hr.2, hR]; simp; done)
          | (obtain ⟨a, b⟩ := hr' h2; rw [a, b, hR]; simp [h2]; done)
          | (obtain ⟨a, b⟩ := hr h2; rw [a, b, hR]; simp; done)
    · try dsimp only [Ty.T] at h1
      try simp only [castL_self] at h1
      try simp only [Int.toNat_natCast] at h1
      try simp only [Int.toNat_zero] at h1
      have hr : wordE P A N S w ≠ 0 → runE P A N S s w = wordE P A N S w ∧ runV P A N S s w = 0 := fun hz => by
        have e : runE P A N S s w = wordE P A N S w := by unfold runE; rw [if_pos hz]
        exact ⟨e, by unfold runV; rw [if_neg (by rw [e]; exact hz)]⟩
      have hr' : wordE P A N S w = 0 → runE P A N S s w = 0 ∧ runV P A N S s w = runN N s w w.length := fun hz => by
        have e : runE P A N S s w = 0 := by unfold runE; rw [if_neg (fun h => h hz), if_pos (by simp [hz] at h1; omega)]
        exact ⟨e, by unfold runV; rw [if_pos e]⟩
      refine AWPD.skip ?_
      refine hK11 _ _ ?_
      clear hK11
      refine AWPD.seq fun K20 hK20 => ?_
      -- region 12
      refine AWPD.keep [2, 3, 4, 9, 10, 14, 15] rfl ?_
      refine AWPD.region tabOK rfl ?_
      refine hK20 _ _ ?_
      clear hK20
      refine AWPD.seq fun K21 hK21 => ?_
      refine AWPD.seq fun K22 hK22 => ?_
      -- region 13
      refine AWPD.keep [2, 3, 4, 9, 10, 14, 15, 16] rfl ?_
      refine AWPD.region tabOK rfl ?_
      refine hK22 _ _ ?_
      clear hK22
      first | refine AWPD.condP rfl (fun h2 => ?_) (fun h2 => ?_) | refine AWPD.condN rfl (fun h2 => ?_) (fun h2 => ?_) | refine AWPD.condAP rfl (fun h2 => ?_) (fun h2 => ?_) | refine AWPD.condOP rfl (fun h2 => ?_) (fun h2 => ?_) | refine AWPD.condONN rfl (fun h2 => ?_) (fun h2 => ?_) | refine AWPD.condOPN rfl (fun h2 => ?_) (fun h2 => ?_) | refine AWPD.condA rfl (fun h2 => ?_) (fun h2 => ?_) | refine AWPD.condO rfl (fun h2 => ?_) (fun h2 => ?_) | refine AWPD.cond rfl (fun h2 => ?_) (fun h2 => ?_)
      · try dsimp only [Ty.T] at h2
        try simp only [castL_self] at h2
        try simp only [Int.toNat_natCast] at h2
        try simp only [Int.toNat_zero] at h2
        have he0 : runE P A N S s w = 0 := by first | exact absurd h2 (by decide) | exact (hr' h2).1
        -- region 14
        refine AWPD.keep [2, 3, 4, 9, 10, 14, 15] rfl ?_
        refine AWPD.region tabOK rfl ?_
        repeat refine And.intro (by first | exact fun h => h | exact fun _ => rfl | (intro h; rw [h]; rfl) | omega | (intros; (try dsimp only [Ty.T, Ty.size]); (try simp only [castL_self, Int.toNat_natCast, Int.toNat_zero, Int.toNat_one, true_and, List.length_append, List.length_set, List.length_drop, List.length_take, List.length_replicate, List.length_cons, List.length_nil, Nat.zero_add, Nat.mul_one]); omega) | decide | (intros; simp_all; done) | (intros; simp_all; omega)) ?_
        refine Exists.intro _ (Exists.intro _ (And.intro (StepD.call (rrun_fn _ _ _ _ _ _ (by assumption)) rfl rfl rfl) (And.intro rfl (And.intro trivial ?_))))
        refine hK21 _ _ ?_
        clear hK21
        refine AWPD.seq fun K23 hK23 => ?_
        -- region 15
        refine AWPD.keep [2, 3, 4, 9, 10, 14, 15, 16] rfl ?_
        refine AWPD.region tabOK rfl ?_
        repeat refine And.intro (by first | exact fun h => h | exact fun _ => rfl | (intro h; rw [h]; rfl) | omega | (intros; (try dsimp only [Ty.T, Ty.size]); (try simp only [castL_self, Int.toNat_natCast, Int.toNat_zero, Int.toNat_one, true_and, List.length_append, List.length_set, List.length_drop, List.length_take, List.length_replicate, List.length_cons, List.length_nil, Nat.zero_add, Nat.mul_one]); omega) | decide | (intros; simp_all; done) | (intros; simp_all; omega)) ?_
        refine Exists.intro _ (Exists.intro _ (And.intro (StepD.call (run_fn _ _ _ _ _ _) rfl rfl rfl) (And.intro rfl (And.intro trivial ?_))))
        refine hK23 _ _ ?_
        clear hK23
        refine AWPD.seq fun K24 hK24 => ?_
        -- region 16
        refine AWPD.keep [9, 10, 12, 13, 14, 15, 16] rfl ?_
        refine AWPD.region tabOK rfl ?_
        repeat refine And.intro (by first | exact fun h => h | exact fun _ => rfl | (intro h; rw [h]; rfl) | omega | (intros; (try dsimp only [Ty.T, Ty.size]); (try simp only [castL_self, Int.toNat_natCast, Int.toNat_zero, Int.toNat_one, true_and, List.length_append, List.length_set, List.length_drop, List.length_take, List.length_replicate, List.length_cons, List.length_nil, Nat.zero_add, Nat.mul_one]); omega) | decide | (intros; simp_all; done) | (intros; simp_all; omega)) ?_
        refine Exists.intro _ (Exists.intro _ (And.intro (fun hg => StepD.callG errG_stays rfl hG0 (error_fn _ _) rfl rfl rfl) (And.intro (fun hf => rfl) (And.intro rfl (And.intro trivial ?_)))))
        repeat refine And.intro (by first | exact fun h => h | exact fun _ => rfl | (intro h; rw [h]; rfl) | omega | (intros; (try dsimp only [Ty.T, Ty.size]); (try simp only [castL_self, Int.toNat_natCast, Int.toNat_zero, Int.toNat_one, true_and, List.length_append, List.length_set, List.length_drop, List.length_take, List.length_replicate, List.length_cons, List.length_nil, Nat.zero_add, Nat.mul_one]); omega) | decide | (intros; simp_all; done) | (intros; simp_all; omega)) ?_
        refine hK24 _ _ ?_
        clear hK24
        refine AWPD.ret (And.intro (.inl rfl) ?_)
        -- result 2
        refine RetD.one ?_
        refine fitB rfl ?_
        first
          | (exfalso; exact absurd h2 (by decide))
          | (rw [hr.1, hr.2, hR]; simp; done)
          | (obtain ⟨a, b⟩ := hr' h2; rw [a, b, hR]; simp [h2]; done)
          | (obtain ⟨a, b⟩ := hr h2; rw [a, b, hR]; simp; done)
      · try dsimp only [Ty.T] at h2
        try simp only [castL_self] at h2
        try simp only [Int.toNat_natCast] at h2
        try simp only [Int.toNat_zero] at h2
        refine AWPD.skip ?_
        refine hK21 _ _ ?_
        clear hK21
        refine AWPD.seq fun K25 hK25 => ?_
        -- region 15
        refine AWPD.keep [2, 3, 4, 9, 10, 14, 15, 16] rfl ?_
        refine AWPD.region tabOK rfl ?_
        repeat refine And.intro (by first | exact fun h => h | exact fun _ => rfl | (intro h; rw [h]; rfl) | omega | (intros; (try dsimp only [Ty.T, Ty.size]); (try simp only [castL_self, Int.toNat_natCast, Int.toNat_zero, Int.toNat_one, true_and, List.length_append, List.length_set, List.length_drop, List.length_take, List.length_replicate, List.length_cons, List.length_nil, Nat.zero_add, Nat.mul_one]); omega) | decide | (intros; simp_all; done) | (intros; simp_all; omega)) ?_
        refine Exists.intro _ (Exists.intro _ (And.intro (StepD.call (run_fn _ _ _ _ _ _) rfl rfl rfl) (And.intro rfl (And.intro trivial ?_))))
        refine hK25 _ _ ?_
        clear hK25
        refine AWPD.seq fun K26 hK26 => ?_
        -- region 16
        refine AWPD.keep [9, 10, 12, 13, 14, 15, 16] rfl ?_
        refine AWPD.region tabOK rfl ?_
        repeat refine And.intro (by first | exact fun h => h | exact fun _ => rfl | (intro h; rw [h]; rfl) | omega | (intros; (try dsimp only [Ty.T, Ty.size]); (try simp only [castL_self, Int.toNat_natCast, Int.toNat_zero, Int.toNat_one, true_and, List.length_append, List.length_set, List.length_drop, List.length_take, List.length_replicate, List.length_cons, List.length_nil, Nat.zero_add, Nat.mul_one]); omega) | decide | (intros; simp_all; done) | (intros; simp_all; omega)) ?_
        refine Exists.intro _ (Exists.intro _ (And.intro (fun hg => StepD.callG errG_stays rfl hG0 (error_fn _ _) rfl rfl rfl) (And.intro (fun hf => rfl) (And.intro rfl (And.intro trivial ?_)))))
        repeat refine And.intro (by first | exact fun h => h | exact fun _ => rfl | (intro h; rw [h]; rfl) | omega | (intros; (try dsimp only [Ty.T, Ty.size]); (try simp only [castL_self, Int.toNat_natCast, Int.toNat_zero, Int.toNat_one, true_and, List.length_append, List.length_set, List.length_drop, List.length_take, List.length_replicate, List.length_cons, List.length_nil, Nat.zero_add, Nat.mul_one]); omega) | decide | (intros; simp_all; done) | (intros; simp_all; omega)) ?_
        refine hK26 _ _ ?_
        clear hK26
        refine AWPD.ret (And.intro (.inl rfl) ?_)
        -- result 3
        refine RetD.one ?_
        refine fitB rfl ?_
        first
          | (exfalso; exact absurd h2 (by decide))
          | (rw [hr.1, hr.2, hR]; simp; done)
          | (obtain ⟨a, b⟩ := hr' h2; rw [a, b, hR]; simp [h2]; done)
          | (obtain ⟨a, b⟩ := hr h2; rw [a, b, hR]; simp; done)
  · try dsimp only [Ty.T] at h0
    try simp only [castL_self] at h0
    try simp only [Int.toNat_natCast] at h0
    try simp only [Int.toNat_zero] at h0
    have hR : reachV P A N S = 0 := by unfold reachV; rw [if_neg h0]
    refine AWPD.skip ?_
    refine hK5 _ _ ?_
    clear hK5
    refine AWPD.seq fun K27 hK27 => ?_
    -- region 6
    refine AWPD.keep [2, 3, 4, 9, 10, 11] rfl ?_
    refine AWPD.region tabOK rfl ?_
    repeat refine And.intro (by first | exact fun h => h | exact fun _ => rfl | (intro h; rw [h]; rfl) | omega | (intros; (try dsimp only [Ty.T, Ty.size]); (try simp only [castL_self, Int.toNat_natCast, Int.toNat_zero, Int.toNat_one, true_and, List.length_append, List.length_set, List.length_drop, List.length_take, List.length_replicate, List.length_cons, List.length_nil, Nat.zero_add, Nat.mul_one]); omega) | decide | (intros; simp_all; done) | (intros; simp_all; omega)) ?_
    refine Exists.intro _ (Exists.intro _ (And.intro (StepD.call (reached_fn _ _ _ _) rfl rfl rfl) (And.intro rfl (And.intro trivial ?_))))
    refine hK27 _ _ ?_
    clear hK27
    refine AWPD.seq fun K28 hK28 => ?_
    -- region 7
    refine AWPD.keep [2, 3, 4, 9, 10, 11, 12, 13] rfl ?_
    refine AWPD.region tabOK rfl ?_
    refine Exists.intro _ (Exists.intro _ (And.intro (StepD.callG errG_stays rfl hG0 (error_fn _ _) rfl rfl rfl) (And.intro rfl (And.intro trivial ?_))))
    repeat refine And.intro (by first | exact fun h => h | exact fun _ => rfl | (intro h; rw [h]; rfl) | omega | (intros; (try dsimp only [Ty.T, Ty.size]); (try simp only [castL_self, Int.toNat_natCast, Int.toNat_zero, Int.toNat_one, true_and, List.length_append, List.length_set, List.length_drop, List.length_take, List.length_replicate, List.length_cons, List.length_nil, Nat.zero_add, Nat.mul_one]); omega) | decide | (intros; simp_all; done) | (intros; simp_all; omega)) ?_
    refine hK28 _ _ ?_
    clear hK28
    refine AWPD.seq fun K29 hK29 => ?_
    -- region 8
    refine AWPD.keep [2, 3, 4, 10, 14] rfl ?_
    refine AWPD.region tabOK rfl ?_
    repeat refine And.intro (by first | exact fun h => h | exact fun _ => rfl | (intro h; rw [h]; rfl) | omega | (intros; (try dsimp only [Ty.T, Ty.size]); (try simp only [castL_self, Int.toNat_natCast, Int.toNat_zero, Int.toNat_one, true_and, List.length_append, List.length_set, List.length_drop, List.length_take, List.length_replicate, List.length_cons, List.length_nil, Nat.zero_add, Nat.mul_one]); omega) | decide | (intros; simp_all; done) | (intros; simp_all; omega)) ?_
    refine Exists.intro _ (Exists.intro _ (And.intro (StepD.call (rword_fn _ _ _ _ _) rfl rfl rfl) (And.intro rfl (And.intro trivial ?_))))
    refine hK29 _ _ ?_
    clear hK29
    refine AWPD.seq fun K30 hK30 => ?_
    -- region 9
    refine AWPD.keep [2, 3, 4, 9, 10, 14] rfl ?_
    refine AWPD.region tabOK rfl ?_
    repeat refine And.intro (by first | exact fun h => h | exact fun _ => rfl | (intro h; rw [h]; rfl) | omega | (intros; (try dsimp only [Ty.T, Ty.size]); (try simp only [castL_self, Int.toNat_natCast, Int.toNat_zero, Int.toNat_one, true_and, List.length_append, List.length_set, List.length_drop, List.length_take, List.length_replicate, List.length_cons, List.length_nil, Nat.zero_add, Nat.mul_one]); omega) | decide | (intros; simp_all; done) | (intros; simp_all; omega)) ?_
    refine Exists.intro _ (Exists.intro _ (And.intro (StepD.call (word_fn _ _ _ _ _) rfl rfl rfl) (And.intro rfl (And.intro trivial ?_))))
    refine Exists.intro _ (Exists.intro _ (And.intro (StepD.callG errG_stays rfl hG0 (error_fn _ _) rfl rfl rfl) (And.intro rfl (And.intro trivial ?_))))
    refine hK30 _ _ ?_
    clear hK30
    refine AWPD.seq fun K31 hK31 => ?_
    refine AWPD.seq fun K32 hK32 => ?_
    -- region 10
    refine AWPD.keep [2, 3, 4, 9, 10, 14, 15] rfl ?_
    refine AWPD.region tabOK rfl ?_
    repeat refine And.intro (by first | exact fun h => h | exact fun _ => rfl | (intro h; rw [h]; rfl) | omega | (intros; (try dsimp only [Ty.T, Ty.size]); (try simp only [castL_self, Int.toNat_natCast, Int.toNat_zero, Int.toNat_one, true_and, List.length_append, List.length_set, List.length_drop, List.length_take, List.length_replicate, List.length_cons, List.length_nil, Nat.zero_add, Nat.mul_one]); omega) | decide | (intros; simp_all; done) | (intros; simp_all; omega)) ?_
    refine hK32 _ _ ?_
    clear hK32
    first | refine AWPD.cond rfl (fun h1 => ?_) (fun h1 => ?_)
    · try dsimp only [Ty.T] at h1
      try simp only [castL_self] at h1
      try simp only [Int.toNat_natCast] at h1
      try simp only [Int.toNat_zero] at h1
      have hw0 : wordE P A N S w = 0 := by
        by_cases hz : wordE P A N S w = 0
        · exact hz
        · simp [hz] at h1
      have hr1 : runE P A N S s w = 1 := by
        unfold runE
        rw [if_neg (fun h => h hw0), if_neg (fun hp => by simp [hw0] at h1; omega)]
      have hr : runE P A N S s w = 1 ∧ runV P A N S s w = 0 := ⟨hr1, by unfold runV; rw [hr1]; rfl⟩
      -- region 11
      refine AWPD.keep [2, 3, 4, 10, 14, 15] rfl ?_
      refine AWPD.region tabOK rfl ?_
      refine hK31 _ _ ?_
      clear hK31
      refine AWPD.seq fun K33 hK33 => ?_
      -- region 12
      refine AWPD.keep [2, 3, 4, 9, 10, 14, 15] rfl ?_
      refine AWPD.region tabOK rfl ?_
      refine hK33 _ _ ?_
      clear hK33
      refine AWPD.seq fun K34 hK34 => ?_
      refine AWPD.seq fun K35 hK35 => ?_
      -- region 13
      refine AWPD.keep [2, 3, 4, 9, 10, 14, 15, 16] rfl ?_
      refine AWPD.region tabOK rfl ?_
      refine hK35 _ _ ?_
      clear hK35
      first | refine AWPD.condP rfl (fun h2 => ?_) (fun h2 => ?_) | refine AWPD.condN rfl (fun h2 => ?_) (fun h2 => ?_) | refine AWPD.condAP rfl (fun h2 => ?_) (fun h2 => ?_) | refine AWPD.condOP rfl (fun h2 => ?_) (fun h2 => ?_) | refine AWPD.condONN rfl (fun h2 => ?_) (fun h2 => ?_) | refine AWPD.condOPN rfl (fun h2 => ?_) (fun h2 => ?_) | refine AWPD.condA rfl (fun h2 => ?_) (fun h2 => ?_) | refine AWPD.condO rfl (fun h2 => ?_) (fun h2 => ?_) | refine AWPD.cond rfl (fun h2 => ?_) (fun h2 => ?_)
      · try dsimp only [Ty.T] at h2
        try simp only [castL_self] at h2
        try simp only [Int.toNat_natCast] at h2
        try simp only [Int.toNat_zero] at h2
        have he0 : runE P A N S s w = 0 := by first | exact absurd h2 (by decide) | exact (hr' h2).1
        -- region 14
        refine AWPD.keep [2, 3, 4, 9, 10, 14, 15] rfl ?_
        refine AWPD.region tabOK rfl ?_
        repeat refine And.intro (by first | exact fun h => h | exact fun _ => rfl | (intro h; rw [h]; rfl) | omega | (intros; (try dsimp only [Ty.T, Ty.size]); (try simp only [castL_self, Int.toNat_natCast, Int.toNat_zero, Int.toNat_one, true_and, List.length_append, List.length_set, List.length_drop, List.length_take, List.length_replicate, List.length_cons, List.length_nil, Nat.zero_add, Nat.mul_one]); omega) | decide | (intros; simp_all; done) | (intros; simp_all; omega)) ?_
        refine Exists.intro _ (Exists.intro _ (And.intro (StepD.call (rrun_fn _ _ _ _ _ _ (by assumption)) rfl rfl rfl) (And.intro rfl (And.intro trivial ?_))))
        refine hK34 _ _ ?_
        clear hK34
        refine AWPD.seq fun K36 hK36 => ?_
        -- region 15
        refine AWPD.keep [2, 3, 4, 9, 10, 14, 15, 16] rfl ?_
        refine AWPD.region tabOK rfl ?_
        repeat refine And.intro (by first | exact fun h => h | exact fun _ => rfl | (intro h; rw [h]; rfl) | omega | (intros; (try dsimp only [Ty.T, Ty.size]); (try simp only [castL_self, Int.toNat_natCast, Int.toNat_zero, Int.toNat_one, true_and, List.length_append, List.length_set, List.length_drop, List.length_take, List.length_replicate, List.length_cons, List.length_nil, Nat.zero_add, Nat.mul_one]); omega) | decide | (intros; simp_all; done) | (intros; simp_all; omega)) ?_
        refine Exists.intro _ (Exists.intro _ (And.intro (StepD.call (run_fn _ _ _ _ _ _) rfl rfl rfl) (And.intro rfl (And.intro trivial ?_))))
        refine hK36 _ _ ?_
        clear hK36
        refine AWPD.seq fun K37 hK37 => ?_
        -- region 16
        refine AWPD.keep [9, 10, 12, 13, 14, 15, 16] rfl ?_
        refine AWPD.region tabOK rfl ?_
        repeat refine And.intro (by first | exact fun h => h | exact fun _ => rfl | (intro h; rw [h]; rfl) | omega | (intros; (try dsimp only [Ty.T, Ty.size]); (try simp only [castL_self, Int.toNat_natCast, Int.toNat_zero, Int.toNat_one, true_and, List.length_append, List.length_set, List.length_drop, List.length_take, List.length_replicate, List.length_cons, List.length_nil, Nat.zero_add, Nat.mul_one]); omega) | decide | (intros; simp_all; done) | (intros; simp_all; omega)) ?_
        refine Exists.intro _ (Exists.intro _ (And.intro (fun hg => StepD.callG errG_stays rfl hG0 (error_fn _ _) rfl rfl rfl) (And.intro (fun hf => rfl) (And.intro rfl (And.intro trivial ?_)))))
        repeat refine And.intro (by first | exact fun h => h | exact fun _ => rfl | (intro h; rw [h]; rfl) | omega | (intros; (try dsimp only [Ty.T, Ty.size]); (try simp only [castL_self, Int.toNat_natCast, Int.toNat_zero, Int.toNat_one, true_and, List.length_append, List.length_set, List.length_drop, List.length_take, List.length_replicate, List.length_cons, List.length_nil, Nat.zero_add, Nat.mul_one]); omega) | decide | (intros; simp_all; done) | (intros; simp_all; omega)) ?_
        refine hK37 _ _ ?_
        clear hK37
        refine AWPD.ret (And.intro (.inl rfl) ?_)
        -- result 4
        refine RetD.one ?_
        refine fitB rfl ?_
        first
          | (exfalso; exact absurd h2 (by decide))
          | (rw [hr.1, hr.2, hR]; simp; done)
          | (obtain ⟨a, b⟩ := hr' h2; rw [a, b, hR]; simp [h2]; done)
          | (obtain ⟨a, b⟩ := hr h2; rw [a, b, hR]; simp; done)
      · try dsimp only [Ty.T] at h2
        try simp only [castL_self] at h2
        try simp only [Int.toNat_natCast] at h2
        try simp only [Int.toNat_zero] at h2
        refine AWPD.skip ?_
        refine hK34 _ _ ?_
        clear hK34
        refine AWPD.seq fun K38 hK38 => ?_
        -- region 15
        refine AWPD.keep [2, 3, 4, 9, 10, 14, 15, 16] rfl ?_
        refine AWPD.region tabOK rfl ?_
        repeat refine And.intro (by first | exact fun h => h | exact fun _ => rfl | (intro h; rw [h]; rfl) | omega | (intros; (try dsimp only [Ty.T, Ty.size]); (try simp only [castL_self, Int.toNat_natCast, Int.toNat_zero, Int.toNat_one, true_and, List.length_append, List.length_set, List.length_drop, List.length_take, List.length_replicate, List.length_cons, List.length_nil, Nat.zero_add, Nat.mul_one]); omega) | decide | (intros; simp_all; done) | (intros; simp_all; omega)) ?_
        refine Exists.intro _ (Exists.intro _ (And.intro (StepD.call (run_fn _ _ _ _ _ _) rfl rfl rfl) (And.intro rfl (And.intro trivial ?_))))
        refine hK38 _ _ ?_
        clear hK38
        refine AWPD.seq fun K39 hK39 => ?_
        -- region 16
        refine AWPD.keep [9, 10, 12, 13, 14, 15, 16] rfl ?_
        refine AWPD.region tabOK rfl ?_
        repeat refine And.intro (by first | exact fun h => h | exact fun _ => rfl | (intro h; rw [h]; rfl) | omega | (intros; (try dsimp only [Ty.T, Ty.size]); (try simp only [castL_self, Int.toNat_natCast, Int.toNat_zero, Int.toNat_one, true_and, List.length_append, List.length_set, List.length_drop, List.length_take, List.length_replicate, List.length_cons, List.length_nil, Nat.zero_add, Nat.mul_one]); omega) | decide | (intros; simp_all; done) | (intros; simp_all; omega)) ?_
        refine Exists.intro _ (Exists.intro _ (And.intro (fun hg => StepD.callG errG_stays rfl hG0 (error_fn _ _) rfl rfl rfl) (And.intro (fun hf => rfl) (And.intro rfl (And.intro trivial ?_)))))
        repeat refine And.intro (by first | exact fun h => h | exact fun _ => rfl | (intro h; rw [h]; rfl) | omega | (intros; (try dsimp only [Ty.T, Ty.size]); (try simp only [castL_self, Int.toNat_natCast, Int.toNat_zero, Int.toNat_one, true_and, List.length_append, List.length_set, List.length_drop, List.length_take, List.length_replicate, List.length_cons, List.length_nil, Nat.zero_add, Nat.mul_one]); omega) | decide | (intros; simp_all; done) | (intros; simp_all; omega)) ?_
        refine hK39 _ _ ?_
        clear hK39
        refine AWPD.ret (And.intro (.inl rfl) ?_)
        -- result 5
        refine RetD.one ?_
        refine fitB rfl ?_
        first
          | (exfalso; exact absurd h2 (by decide))
          | (rw [hr.1, hr.2, hR]; simp; done)
          | (obtain ⟨a, b⟩ := hr' h2; rw [a, b, hR]; simp [h2]; done)
          | (obtain ⟨a, b⟩ := hr h2; rw [a, b, hR]; simp; done)
    · try dsimp only [Ty.T] at h1
      try simp only [castL_self] at h1
      try simp only [Int.toNat_natCast] at h1
      try simp only [Int.toNat_zero] at h1
      have hr : wordE P A N S w ≠ 0 → runE P A N S s w = wordE P A N S w ∧ runV P A N S s w = 0 := fun hz => by
        have e : runE P A N S s w = wordE P A N S w := by unfold runE; rw [if_pos hz]
        exact ⟨e, by unfold runV; rw [if_neg (by rw [e]; exact hz)]⟩
      have hr' : wordE P A N S w = 0 → runE P A N S s w = 0 ∧ runV P A N S s w = runN N s w w.length := fun hz => by
        have e : runE P A N S s w = 0 := by unfold runE; rw [if_neg (fun h => h hz), if_pos (by simp [hz] at h1; omega)]
        exact ⟨e, by unfold runV; rw [if_pos e]⟩
      refine AWPD.skip ?_
      refine hK31 _ _ ?_
      clear hK31
      refine AWPD.seq fun K40 hK40 => ?_
      -- region 12
      refine AWPD.keep [2, 3, 4, 9, 10, 14, 15] rfl ?_
      refine AWPD.region tabOK rfl ?_
      refine hK40 _ _ ?_
      clear hK40
      refine AWPD.seq fun K41 hK41 => ?_
      refine AWPD.seq fun K42 hK42 => ?_
      -- region 13
      refine AWPD.keep [2, 3, 4, 9, 10, 14, 15, 16] rfl ?_
      refine AWPD.region tabOK rfl ?_
      refine hK42 _ _ ?_
      clear hK42
      first | refine AWPD.condP rfl (fun h2 => ?_) (fun h2 => ?_) | refine AWPD.condN rfl (fun h2 => ?_) (fun h2 => ?_) | refine AWPD.condAP rfl (fun h2 => ?_) (fun h2 => ?_) | refine AWPD.condOP rfl (fun h2 => ?_) (fun h2 => ?_) | refine AWPD.condONN rfl (fun h2 => ?_) (fun h2 => ?_) | refine AWPD.condOPN rfl (fun h2 => ?_) (fun h2 => ?_) | refine AWPD.condA rfl (fun h2 => ?_) (fun h2 => ?_) | refine AWPD.condO rfl (fun h2 => ?_) (fun h2 => ?_) | refine AWPD.cond rfl (fun h2 => ?_) (fun h2 => ?_)
      · try dsimp only [Ty.T] at h2
        try simp only [castL_self] at h2
        try simp only [Int.toNat_natCast] at h2
        try simp only [Int.toNat_zero] at h2
        have he0 : runE P A N S s w = 0 := by first | exact absurd h2 (by decide) | exact (hr' h2).1
        -- region 14
        refine AWPD.keep [2, 3, 4, 9, 10, 14, 15] rfl ?_
        refine AWPD.region tabOK rfl ?_
        repeat refine And.intro (by first | exact fun h => h | exact fun _ => rfl | (intro h; rw [h]; rfl) | omega | (intros; (try dsimp only [Ty.T, Ty.size]); (try simp only [castL_self, Int.toNat_natCast, Int.toNat_zero, Int.toNat_one, true_and, List.length_append, List.length_set, List.length_drop, List.length_take, List.length_replicate, List.length_cons, List.length_nil, Nat.zero_add, Nat.mul_one]); omega) | decide | (intros; simp_all; done) | (intros; simp_all; omega)) ?_
        refine Exists.intro _ (Exists.intro _ (And.intro (StepD.call (rrun_fn _ _ _ _ _ _ (by assumption)) rfl rfl rfl) (And.intro rfl (And.intro trivial ?_))))
        refine hK41 _ _ ?_
        clear hK41
        refine AWPD.seq fun K43 hK43 => ?_
        -- region 15
        refine AWPD.keep [2, 3, 4, 9, 10, 14, 15, 16] rfl ?_
        refine AWPD.region tabOK rfl ?_
        repeat refine And.intro (by first | exact fun h => h | exact fun _ => rfl | (intro h; rw [h]; rfl) | omega | (intros; (try dsimp only [Ty.T, Ty.size]); (try simp only [castL_self, Int.toNat_natCast, Int.toNat_zero, Int.toNat_one, true_and, List.length_append, List.length_set, List.length_drop, List.length_take, List.length_replicate, List.length_cons, List.length_nil, Nat.zero_add, Nat.mul_one]); omega) | decide | (intros; simp_all; done) | (intros; simp_all; omega)) ?_
        refine Exists.intro _ (Exists.intro _ (And.intro (StepD.call (run_fn _ _ _ _ _ _) rfl rfl rfl) (And.intro rfl (And.intro trivial ?_))))
        refine hK43 _ _ ?_
        clear hK43
        refine AWPD.seq fun K44 hK44 => ?_
        -- region 16
        refine AWPD.keep [9, 10, 12, 13, 14, 15, 16] rfl ?_
        refine AWPD.region tabOK rfl ?_
        repeat refine And.intro (by first | exact fun h => h | exact fun _ => rfl | (intro h; rw [h]; rfl) | omega | (intros; (try dsimp only [Ty.T, Ty.size]); (try simp only [castL_self, Int.toNat_natCast, Int.toNat_zero, Int.toNat_one, true_and, List.length_append, List.length_set, List.length_drop, List.length_take, List.length_replicate, List.length_cons, List.length_nil, Nat.zero_add, Nat.mul_one]); omega) | decide | (intros; simp_all; done) | (intros; simp_all; omega)) ?_
        refine Exists.intro _ (Exists.intro _ (And.intro (fun hg => StepD.callG errG_stays rfl hG0 (error_fn _ _) rfl rfl rfl) (And.intro (fun hf => rfl) (And.intro rfl (And.intro trivial ?_)))))
        repeat refine And.intro (by first | exact fun h => h | exact fun _ => rfl | (intro h; rw [h]; rfl) | omega | (intros; (try dsimp only [Ty.T, Ty.size]); (try simp only [castL_self, Int.toNat_natCast, Int.toNat_zero, Int.toNat_one, true_and, List.length_append, List.length_set, List.length_drop, List.length_take, List.length_replicate, List.length_cons, List.length_nil, Nat.zero_add, Nat.mul_one]); omega) | decide | (intros; simp_all; done) | (intros; simp_all; omega)) ?_
        refine hK44 _ _ ?_
        clear hK44
        refine AWPD.ret (And.intro (.inl rfl) ?_)
        -- result 6
        refine RetD.one ?_
        refine fitB rfl ?_
        first
          | (exfalso; exact absurd h2 (by decide))
          | (rw [hr.1, hr.2, hR]; simp; done)
          | (obtain ⟨a, b⟩ := hr' h2; rw [a, b, hR]; simp [h2]; done)
          | (obtain ⟨a, b⟩ := hr h2; rw [a, b, hR]; simp; done)
      · try dsimp only [Ty.T] at h2
        try simp only [castL_self] at h2
        try simp only [Int.toNat_natCast] at h2
        try simp only [Int.toNat_zero] at h2
        refine AWPD.skip ?_
        refine hK41 _ _ ?_
        clear hK41
        refine AWPD.seq fun K45 hK45 => ?_
        -- region 15
        refine AWPD.keep [2, 3, 4, 9, 10, 14, 15, 16] rfl ?_
        refine AWPD.region tabOK rfl ?_
        repeat refine And.intro (by first | exact fun h => h | exact fun _ => rfl | (intro h; rw [h]; rfl) | omega | (intros; (try dsimp only [Ty.T, Ty.size]); (try simp only [castL_self, Int.toNat_natCast, Int.toNat_zero, Int.toNat_one, true_and, List.length_append, List.length_set, List.length_drop, List.length_take, List.length_replicate, List.length_cons, List.length_nil, Nat.zero_add, Nat.mul_one]); omega) | decide | (intros; simp_all; done) | (intros; simp_all; omega)) ?_
        refine Exists.intro _ (Exists.intro _ (And.intro (StepD.call (run_fn _ _ _ _ _ _) rfl rfl rfl) (And.intro rfl (And.intro trivial ?_))))
        refine hK45 _ _ ?_
        clear hK45
        refine AWPD.seq fun K46 hK46 => ?_
        -- region 16
        refine AWPD.keep [9, 10, 12, 13, 14, 15, 16] rfl ?_
        refine AWPD.region tabOK rfl ?_
        repeat refine And.intro (by first | exact fun h => h | exact fun _ => rfl | (intro h; rw [h]; rfl) | omega | (intros; (try dsimp only [Ty.T, Ty.size]); (try simp only [castL_self, Int.toNat_natCast, Int.toNat_zero, Int.toNat_one, true_and, List.length_append, List.length_set, List.length_drop, List.length_take, List.length_replicate, List.length_cons, List.length_nil, Nat.zero_add, Nat.mul_one]); omega) | decide | (intros; simp_all; done) | (intros; simp_all; omega)) ?_
        refine Exists.intro _ (Exists.intro _ (And.intro (fun hg => StepD.callG errG_stays rfl hG0 (error_fn _ _) rfl rfl rfl) (And.intro (fun hf => rfl) (And.intro rfl (And.intro trivial ?_)))))
        repeat refine And.intro (by first | exact fun h => h | exact fun _ => rfl | (intro h; rw [h]; rfl) | omega | (intros; (try dsimp only [Ty.T, Ty.size]); (try simp only [castL_self, Int.toNat_natCast, Int.toNat_zero, Int.toNat_one, true_and, List.length_append, List.length_set, List.length_drop, List.length_take, List.length_replicate, List.length_cons, List.length_nil, Nat.zero_add, Nat.mul_one]); omega) | decide | (intros; simp_all; done) | (intros; simp_all; omega)) ?_
        refine hK46 _ _ ?_
        clear hK46
        refine AWPD.ret (And.intro (.inl rfl) ?_)
        -- result 7
        refine RetD.one ?_
        refine fitB rfl ?_
        first
          | (exfalso; exact absurd h2 (by decide))
          | (rw [hr.1, hr.2, hR]; simp; done)
          | (obtain ⟨a, b⟩ := hr' h2; rw [a, b, hR]; simp [h2]; done)
          | (obtain ⟨a, b⟩ := hr h2; rw [a, b, hR]; simp; done)
end Go.Proofs.YtndoigkmdcgjfaaDoor
