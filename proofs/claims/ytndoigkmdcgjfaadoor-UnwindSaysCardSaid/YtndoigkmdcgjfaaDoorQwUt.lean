/-
  WALKS of the document's views of a part, and of the law UnwindSays. Laid by a program of mine out of the operations, with the loops and results told by hand.
-/
import Derived.Test.YtndoigkmdcgjfaaDoorQwUs
namespace Go.Proofs.YtndoigkmdcgjfaaDoor
open Go Go.Qw
set_option maxRecDepth 10000
set_option linter.unusedSimpArgs false
set_option linter.unusedVariables false
set_option linter.unusedSectionVars false


theorem join3_if {nn : Nat} {l : Nat → Nat} {s t : Int} (hn : nn ≤ 1000000) (hs : 0 ≤ s ∧ s.toNat < nn) (ht : 0 ≤ t ∧ t.toNat < nn) {c : Bool} (hc : c = true) :
    LiftsO Tryd.prog 76 [.ob 0, .i s, .i t] (.row 3 .int (labL nn l)) (.b (decide (l s.toNat ≠ l t.toNat))) (.row 3 .int (labL nn (bif c then renR l s.toNat t.toNat else l))) := by
  subst hc
  exact join3_fn nn l s t hn hs ht
section
variable {N : List (List Int)} {A f : List Int} {part : Int} {x s a t : Nat} {p : St}
theorem q1_obj : (bif qaF A f part a then renR p.1 s (nx N s a) else p.1) = (q1 N A f part s a p).1 := by
  unfold q1; cases qaF A f part a <;> rfl
theorem q1_up (h : (bif qaF A f part a then decide (p.1 s ≠ p.1 (nx N s a)) else false) = true) : true = (q1 N A f part s a p).2 := by
  unfold q1
  cases hq : qaF A f part a with
  | false => rw [hq] at h; cases h
  | true =>
    rw [hq] at h
    show true = (bif decide (p.1 s ≠ p.1 (nx N s a)) then true else p.2)
    rw [show decide (p.1 s ≠ p.1 (nx N s a)) = true from h]
    rfl
theorem q1_still (h : (bif qaF A f part a then decide (p.1 s ≠ p.1 (nx N s a)) else false) = false) : p.2 = (q1 N A f part s a p).2 := by
  unfold q1
  cases hq : qaF A f part a with
  | false => rfl
  | true =>
    rw [hq] at h
    show p.2 = (bif decide (p.1 s ≠ p.1 (nx N s a)) then true else p.2)
    rw [show decide (p.1 s ≠ p.1 (nx N s a)) = false from h]
    rfl
theorem q2_obj {X : Bool} (hX : X = true ↔ (x.testBit t = true ∧ (q2 N x s a p t).1 t = (q2 N x s a p t).1 s)) : (bif X then renR (q2 N x s a p t).1 (nx N s a) (nx N t a) else (q2 N x s a p t).1) = (q2 N x s a p (t + 1)).1 := by
  rw [q2]
  cases X with
  | false => rw [if_neg (fun h => by have := hX.2 h; cases this)]; rfl
  | true => rw [if_pos (hX.1 rfl)]; rfl
theorem q2_up {X : Bool} (hX : X = true ↔ (x.testBit t = true ∧ (q2 N x s a p t).1 t = (q2 N x s a p t).1 s)) (h : (bif X then decide ((q2 N x s a p t).1 (nx N s a) ≠ (q2 N x s a p t).1 (nx N t a)) else false) = true) : true = (q2 N x s a p (t + 1)).2 := by
  rw [q2]
  cases X with
  | false => cases h
  | true =>
    rw [if_pos (hX.1 rfl)]
    show true = (bif decide ((q2 N x s a p t).1 (nx N s a) ≠ (q2 N x s a p t).1 (nx N t a)) then true else (q2 N x s a p t).2)
    rw [show decide ((q2 N x s a p t).1 (nx N s a) ≠ (q2 N x s a p t).1 (nx N t a)) = true from h]
    rfl
theorem q2_still {X : Bool} (hX : X = true ↔ (x.testBit t = true ∧ (q2 N x s a p t).1 t = (q2 N x s a p t).1 s)) (h : (bif X then decide ((q2 N x s a p t).1 (nx N s a) ≠ (q2 N x s a p t).1 (nx N t a)) else false) = false) : (q2 N x s a p t).2 = (q2 N x s a p (t + 1)).2 := by
  rw [q2]
  cases X with
  | false => rw [if_neg (fun h => by have := hX.2 h; cases this)]
  | true =>
    rw [if_pos (hX.1 rfl)]
    show (q2 N x s a p t).2 = (bif decide ((q2 N x s a p t).1 (nx N s a) ≠ (q2 N x s a p t).1 (nx N t a)) then true else (q2 N x s a p t).2)
    rw [show decide ((q2 N x s a p t).1 (nx N s a) ≠ (q2 N x s a p t).1 (nx N t a)) = false from h]
    rfl
theorem q4_no (h : x.testBit s = false) : q4 N A f part x p s = q4 N A f part x p (s + 1) := by rw [q4, if_neg (by rw [h]; decide)]
theorem q4_yes (h : x.testBit s = true) (ha : a = A.length) : q3 N A f part x s (q4 N A f part x p s) a = q4 N A f part x p (s + 1) := by rw [q4, if_pos h, ha]
theorem cell_cond {l : Nat → Nat} {u n : Nat} (hu : u < n) (ht : t < n) : (bif x.testBit t then decide ((labL n l).getD t 0 = (labL n l).getD u 0) else false) = true ↔ (x.testBit t = true ∧ l t = l u) := by
  rw [labL_get hu, labL_get ht]
  cases x.testBit t with
  | false => simp
  | true => simp; omega
end

theorem rviews_fn (P : Int) (A : List Int) (N S : List (List Int)) (f : List Int) (part : Int) (he : chkE P A N S f part = 0) : LiftsN Tryd.prog 40 [.agg [.i P, .sl .int A, .sl (.sl .int) N, .sl (.sl .int) S], .sl .int f, .i part] (.row 3 .int (outV (vF3 N A f part) (reachN N) N.length N.length)) := by
  obtain ⟨hpol, hp1, hp2⟩ := chk_ok he
  obtain ⟨hme, gf⟩ := pol_ok hpol
  have g := mach_good hme
  have hri := g.reach_in
  have hrl := g.reach_lt
  have hN := g.few
  have hN0 := g.some
  have hA6 := g.acts6
  have hP := g.parts
  have hfl := gf.len
  refine LiftsN.of_body 104 [.tmp 6] Tryd.func40 rfl Tryd.ntmps40 (by kernel_rfl) rfl rfl fun w0 X0 => ?_
  refine AWPD.seq fun K1 hK1 => ?_
  -- region 0
  refine AWPD.keep [0, 1, 2] rfl ?_
  refine AWPD.region tabOK rfl ?_
  refine hK1 _ _ ?_
  clear hK1
  refine AWPD.seq fun K2 hK2 => ?_
  -- region 1
  refine AWPD.keep [1, 2, 3] rfl ?_
  refine AWPD.region tabOK rfl ?_
  repeat refine And.intro (by first | exact fun h => h | exact fun _ => rfl | (intro h; rw [h]; rfl) | omega | (intros; (try dsimp only [Ty.T, Ty.size]); (try simp only [castL_self, Int.toNat_natCast, Int.toNat_zero, Int.toNat_one, true_and, List.length_append, List.length_set, List.length_drop, List.length_take, List.length_replicate, List.length_cons, List.length_nil, Nat.zero_add, Nat.mul_one]); omega) | decide | (intros; simp_all; done) | (intros; simp_all; omega)) ?_
  refine Exists.intro _ (Exists.intro _ (And.intro (StepD.call (rreached_fn _ _ _ _ (by assumption)) rfl rfl rfl) (And.intro rfl (And.intro trivial ?_))))
  refine hK2 _ _ ?_
  clear hK2
  refine AWPD.seq fun K3 hK3 => ?_
  -- region 2
  refine AWPD.keep [1, 2, 3, 7] rfl ?_
  refine AWPD.region tabOK rfl ?_
  repeat refine And.intro (by first | exact fun h => h | exact fun _ => rfl | (intro h; rw [h]; rfl) | omega | (intros; (try dsimp only [Ty.T, Ty.size]); (try simp only [castL_self, Int.toNat_natCast, Int.toNat_zero, Int.toNat_one, true_and, List.length_append, List.length_set, List.length_drop, List.length_take, List.length_replicate, List.length_cons, List.length_nil, Nat.zero_add, Nat.mul_one]); omega) | decide | (intros; simp_all; done) | (intros; simp_all; omega)) ?_
  refine Exists.intro _ (Exists.intro _ (And.intro (StepD.callN (each3_fn (N.length : Int) (by omega)) rfl rfl (by first | exact rfl | exact row_free _ _ _)) (And.intro rfl (And.intro trivial ?_))))
  refine hK3 _ _ ?_
  clear hK3
  refine AWPD.seq fun K4 hK4 => ?_
  -- region 3
  refine AWPD.keep [1, 2, 3, 7, 8] rfl ?_
  refine AWPD.region tabOK rfl ?_
  refine hK4 _ _ ?_
  clear hK4
  refine AWPD.seq fun K5 hK5 => ?_
  refine AWPD.block ?_
  -- LOOP 0 live [1, 2, 3, 7, 8, 9] changed [9]
  refine AWPD.loopK (σ := St) [1, 2, 3, 7] (fun s base => (8, .ob 0) :: (9, .b s.2) :: base) (fun s => [.row 3 .int (labL N.length s.1)]) (fun n s => OwnP N.length s.1 ∧ ((s.2 = true ∧ repN s.1 N.length < n ∧ vW3 N A f part (reachN N) n s.1 = vF3 N A f part) ∨ (s.2 = false ∧ s.1 = vF3 N A f part))) (N.length + 1) (id, true) [0] rfl rfl (⟨own_id _, .inl ⟨rfl, Nat.lt_succ_of_le (repN_le _ _), rfl⟩⟩) (by decide) ⟨⟨rfl, rfl, rfl⟩, trivial⟩ (by repeat' first | exact True.intro | exact rfl | exact ⟨rfl, rfl⟩ | refine And.intro ?_ ?_) fun n0 s hI0 => ?_
  obtain ⟨hrep, hst⟩ := hI0
  refine AWPD.seq fun K6 hK6 => ?_
  refine AWPD.seq fun K7 hK7 => ?_
  -- region 4
  refine AWPD.keep [1, 2, 3, 7, 8, 9] rfl ?_
  refine AWPD.region tabOK rfl ?_
  refine hK7 _ _ ?_
  clear hK7
  first | refine AWPD.cond rfl (fun h0 => ?_) (fun h0 => ?_)
  · try dsimp only [Ty.T] at h0
    try simp only [castL_self] at h0
    try simp only [Int.toNat_natCast] at h0
    try simp only [Int.toNat_zero] at h0
    have hs3 : repN s.1 N.length < n0 ∧ vW3 N A f part (reachN N) n0 s.1 = vF3 N A f part := by
      rcases hst with h | h
      · exact h.2
      · rw [h.1] at h0; cases h0
    refine AWPD.skip ?_
    refine hK6 _ _ ?_
    clear hK6
    refine AWPD.block ?_
    refine AWPD.seq fun K8 hK8 => ?_
    -- region 5
    refine AWPD.keep [1, 2, 3, 7, 8] rfl ?_
    refine AWPD.region tabOK rfl ?_
    refine hK8 _ _ ?_
    clear hK8
    refine AWPD.seq fun K9 hK9 => ?_
    -- region 6
    refine AWPD.keep [1, 2, 3, 7, 8, 9] rfl ?_
    refine AWPD.region tabOK rfl ?_
    refine hK9 _ _ ?_
    clear hK9
    refine AWPD.block ?_
    -- LOOP 1 live [1, 2, 3, 7, 8, 9, 10] changed [9, 10]
    refine AWPD.loopK (σ := Nat) [1, 2, 3, 7] (fun u base => (8, .ob 0) :: (9, .b (q4 N A f part (reachN N) (s.1, false) u).2) :: (10, .i (u : Int)) :: base) (fun u => [.row 3 .int (labL N.length (q4 N A f part (reachN N) (s.1, false) u).1)]) (fun n u => n + u = N.length) (N.length) 0 [0] rfl rfl (by omega) (by decide) ⟨⟨rfl, rfl, rfl⟩, trivial⟩ (by repeat' first | exact True.intro | exact rfl | exact ⟨rfl, rfl⟩ | refine And.intro ?_ ?_) fun n1 u hI1 => ?_
    have hn1 := hI1
    have hl1 := labL_len N.length (q4 N A f part (reachN N) (s.1, false) u).1
    refine AWPD.seq fun K10 hK10 => ?_
    refine AWPD.seq fun K11 hK11 => ?_
    -- region 7
    refine AWPD.keep [1, 2, 3, 7, 8, 9, 10] rfl ?_
    refine AWPD.region tabOK rfl ?_
    refine hK11 _ _ ?_
    clear hK11
    first | refine AWPD.condP rfl (fun h1 => ?_) (fun h1 => ?_) | refine AWPD.condN rfl (fun h1 => ?_) (fun h1 => ?_) | refine AWPD.condAP rfl (fun h1 => ?_) (fun h1 => ?_) | refine AWPD.condOP rfl (fun h1 => ?_) (fun h1 => ?_) | refine AWPD.condONN rfl (fun h1 => ?_) (fun h1 => ?_) | refine AWPD.condOPN rfl (fun h1 => ?_) (fun h1 => ?_) | refine AWPD.condA rfl (fun h1 => ?_) (fun h1 => ?_) | refine AWPD.condO rfl (fun h1 => ?_) (fun h1 => ?_) | refine AWPD.cond rfl (fun h1 => ?_) (fun h1 => ?_)
    · try dsimp only [Ty.T] at h1
      try simp only [castL_self] at h1
      try simp only [Int.toNat_natCast] at h1
      try simp only [Int.toNat_zero] at h1
      have hun : u < N.length := by omega
      refine AWPD.skip ?_
      refine hK10 _ _ ?_
      clear hK10
      refine AWPD.seq fun K12 hK12 => ?_
      refine AWPD.block ?_
      refine AWPD.seq fun K13 hK13 => ?_
      refine AWPD.seq fun K14 hK14 => ?_
      -- region 9
      refine AWPD.keep [1, 2, 3, 7, 8, 9, 10] rfl ?_
      refine AWPD.region tabOK rfl ?_
      refine Exists.intro _ (Exists.intro _ (And.intro (StepD.call (bit_fn ((reachN N : Nat) : Int) (u : Int) (by omega) (by omega)) rfl rfl rfl) (And.intro rfl (And.intro trivial ?_))))
      refine hK14 _ _ ?_
      clear hK14
      first | refine AWPD.cond rfl (fun h2 => ?_) (fun h2 => ?_)
      · try dsimp only [Ty.T] at h2
        try simp only [castL_self] at h2
        try simp only [Int.toNat_natCast] at h2
        try simp only [Int.toNat_zero] at h2
        have hb : (reachN N).testBit u = false := by simpa using h2
        refine AWPD.exit ?_
        refine hK12 _ _ ?_
        clear hK12
        -- region 8
        refine AWPD.keep [1, 2, 3, 7, 8, 9, 10] rfl ?_
        refine AWPD.region tabOK rfl ?_
        repeat refine And.intro (by first | exact fun h => h | exact fun _ => rfl | (intro h; rw [h]; rfl) | omega | (intros; (try dsimp only [Ty.T, Ty.size]); (try simp only [castL_self, Int.toNat_natCast, Int.toNat_zero, Int.toNat_one, true_and, List.length_append, List.length_set, List.length_drop, List.length_take, List.length_replicate, List.length_cons, List.length_nil, Nat.zero_add, Nat.mul_one]); omega) | decide | (intros; simp_all; done) | (intros; simp_all; omega)) ?_
        refine ⟨n1 - 1, u + 1, [0], by omega, by omega, ⟨by decide, rfl⟩, ⟨⟨rfl, rfl, congrArg (fun z : St => labL N.length z.1) (q4_no hb)⟩, trivial⟩, ?_⟩
        repeat' first | exact congrArg Prod.snd (q4_no hb) | exact congrArg Prod.snd (q4_yes hb hal) | exact True.intro | exact rfl | exact ⟨rfl, rfl⟩ | refine And.intro ?_ ?_
      · try dsimp only [Ty.T] at h2
        try simp only [castL_self] at h2
        try simp only [Int.toNat_natCast] at h2
        try simp only [Int.toNat_zero] at h2
        have hb : (reachN N).testBit u = true := by simpa using h2
        refine AWPD.skip ?_
        refine hK13 _ _ ?_
        clear hK13
        refine AWPD.seq fun K15 hK15 => ?_
        -- region 10
        refine AWPD.keep [1, 2, 3, 7, 8, 9, 10] rfl ?_
        refine AWPD.region tabOK rfl ?_
        refine hK15 _ _ ?_
        clear hK15
        refine AWPD.block ?_
        -- LOOP 2 live [1, 2, 3, 7, 8, 9, 10, 11] changed [9, 11]
        refine AWPD.loopK (σ := Nat) [1, 2, 3, 7, 10] (fun a base => (8, .ob 0) :: (9, .b (q3 N A f part (reachN N) u (q4 N A f part (reachN N) (s.1, false) u) a).2) :: (11, .i (a : Int)) :: base) (fun a => [.row 3 .int (labL N.length (q3 N A f part (reachN N) u (q4 N A f part (reachN N) (s.1, false) u) a).1)]) (fun n a => n + a = A.length) (A.length) 0 [0] rfl rfl (by omega) (by decide) ⟨⟨rfl, rfl, rfl⟩, trivial⟩ (by repeat' first | exact True.intro | exact rfl | exact ⟨rfl, rfl⟩ | refine And.intro ?_ ?_) fun n2 a hI2 => ?_
        have hn2 := hI2
        have hl2 := labL_len N.length (q3 N A f part (reachN N) u (q4 N A f part (reachN N) (s.1, false) u) a).1
        refine AWPD.seq fun K16 hK16 => ?_
        refine AWPD.seq fun K17 hK17 => ?_
        -- region 11
        refine AWPD.keep [1, 2, 3, 7, 8, 9, 10, 11] rfl ?_
        refine AWPD.region tabOK rfl ?_
        repeat refine And.intro (by first | exact fun h => h | exact fun _ => rfl | (intro h; rw [h]; rfl) | omega | (intros; (try dsimp only [Ty.T, Ty.size]); (try simp only [castL_self, Int.toNat_natCast, Int.toNat_zero, Int.toNat_one, true_and, List.length_append, List.length_set, List.length_drop, List.length_take, List.length_replicate, List.length_cons, List.length_nil, Nat.zero_add, Nat.mul_one]); omega) | decide | (intros; simp_all; done) | (intros; simp_all; omega)) ?_
        refine hK17 _ _ ?_
        clear hK17
        first | refine AWPD.condP rfl (fun h3 => ?_) (fun h3 => ?_) | refine AWPD.condN rfl (fun h3 => ?_) (fun h3 => ?_) | refine AWPD.condAP rfl (fun h3 => ?_) (fun h3 => ?_) | refine AWPD.condOP rfl (fun h3 => ?_) (fun h3 => ?_) | refine AWPD.condONN rfl (fun h3 => ?_) (fun h3 => ?_) | refine AWPD.condOPN rfl (fun h3 => ?_) (fun h3 => ?_) | refine AWPD.condA rfl (fun h3 => ?_) (fun h3 => ?_) | refine AWPD.condO rfl (fun h3 => ?_) (fun h3 => ?_) | refine AWPD.cond rfl (fun h3 => ?_) (fun h3 => ?_)
        · try dsimp only [Ty.T] at h3
          try simp only [castL_self] at h3
          try simp only [Int.toNat_natCast] at h3
          try simp only [Int.toNat_zero] at h3
          have hal : a < A.length := by omega
          have hac := g.acts a hal
          have hxu := g.nx_lt hun hal
          have hnu : ((N.getD u []).getD a 0).toNat < N.length := hxu.2.2
          have hmf := mask_le (gf.mask (A.getD a 0).toNat (by omega)) hP.2
          have hrow := g.rowN _ hun
          refine AWPD.skip ?_
          refine hK16 _ _ ?_
          clear hK16
          refine AWPD.seq fun K18 hK18 => ?_
          refine AWPD.block ?_
          refine AWPD.seq fun K19 hK19 => ?_
          refine AWPD.seq fun K20 hK20 => ?_
          -- region 13
          refine AWPD.keep [1, 2, 3, 7, 8, 9, 10, 11] rfl ?_
          refine AWPD.region tabOK rfl ?_
          repeat refine And.intro (by first | exact fun h => h | exact fun _ => rfl | (intro h; rw [h]; rfl) | omega | (intros; (try dsimp only [Ty.T, Ty.size]); (try simp only [castL_self, Int.toNat_natCast, Int.toNat_zero, Int.toNat_one, true_and, List.length_append, List.length_set, List.length_drop, List.length_take, List.length_replicate, List.length_cons, List.length_nil, Nat.zero_add, Nat.mul_one]); omega) | decide | (intros; simp_all; done) | (intros; simp_all; omega)) ?_
          refine Exists.intro _ (Exists.intro _ (And.intro (StepD.call (bit_fn (f.getD (A.getD a 0).toNat 0) part (by omega) (by omega)) rfl rfl rfl) (And.intro rfl (And.intro trivial ?_))))
          repeat refine And.intro (by first | exact fun h => h | exact fun _ => rfl | (intro h; rw [h]; rfl) | omega | (intros; (try dsimp only [Ty.T, Ty.size]); (try simp only [castL_self, Int.toNat_natCast, Int.toNat_zero, Int.toNat_one, true_and, List.length_append, List.length_set, List.length_drop, List.length_take, List.length_replicate, List.length_cons, List.length_nil, Nat.zero_add, Nat.mul_one]); omega) | decide | (intros; simp_all; done) | (intros; simp_all; omega)) ?_
          refine Exists.intro _ (Exists.intro _ (And.intro (fun hg => StepD.callO (i := 0) (join3_if (s := (u : Int)) (t := (N.getD u []).getD a 0) (by omega) (by omega) (by omega) hg) rfl rfl rfl rfl (by first | exact rfl | exact row_free _ _ _) (by first | exact rfl | exact row_free _ _ _)) (And.intro (fun hf => by rw [hf]; rfl) (And.intro rfl (And.intro trivial ?_)))))
          repeat refine And.intro (by first | exact fun h => h | exact fun _ => rfl | (intro h; rw [h]; rfl) | omega | (intros; (try dsimp only [Ty.T, Ty.size]); (try simp only [castL_self, Int.toNat_natCast, Int.toNat_zero, Int.toNat_one, true_and, List.length_append, List.length_set, List.length_drop, List.length_take, List.length_replicate, List.length_cons, List.length_nil, Nat.zero_add, Nat.mul_one]); omega) | decide | (intros; simp_all; done) | (intros; simp_all; omega)) ?_
          refine hK20 _ _ ?_
          clear hK20
          first | refine AWPD.cond rfl (fun h4 => ?_) (fun h4 => ?_)
          · try dsimp only [Ty.T] at h4
            try simp only [castL_self] at h4
            try simp only [Int.toNat_natCast] at h4
            try simp only [Int.toNat_zero] at h4
            -- region 14
            refine AWPD.keep [1, 2, 3, 7, 8, 10, 11] rfl ?_
            refine AWPD.region tabOK rfl ?_
            refine hK19 _ _ ?_
            clear hK19
            refine AWPD.seq fun K21 hK21 => ?_
            -- region 15
            refine AWPD.keep [1, 2, 3, 7, 8, 9, 10, 11] rfl ?_
            refine AWPD.region tabOK rfl ?_
            refine hK21 _ _ ?_
            clear hK21
            refine AWPD.block ?_
            -- LOOP 3 live [1, 2, 3, 7, 8, 9, 10, 11, 12] changed [9, 12]
            refine AWPD.loopK (σ := Nat) [1, 2, 3, 7, 10, 11] (fun t base => (8, .ob 0) :: (9, .b (q2 N (reachN N) u a (q1 N A f part u a (q3 N A f part (reachN N) u (q4 N A f part (reachN N) (s.1, false) u) a)) t).2) :: (12, .i (t : Int)) :: base) (fun t => [.row 3 .int (labL N.length (q2 N (reachN N) u a (q1 N A f part u a (q3 N A f part (reachN N) u (q4 N A f part (reachN N) (s.1, false) u) a)) t).1)]) (fun n t => n + t = N.length) (N.length) 0 [0] rfl rfl (by omega) (by decide) ⟨⟨rfl, rfl, congrArg (labL N.length) q1_obj⟩, trivial⟩ (by repeat' first | exact q1_up h4 | exact q1_still h4 | exact True.intro | exact rfl | exact ⟨rfl, rfl⟩ | refine And.intro ?_ ?_) fun n3 t hI3 => ?_
            have hn3 := hI3
            have hl3 := labL_len N.length (q2 N (reachN N) u a (q1 N A f part u a (q3 N A f part (reachN N) u (q4 N A f part (reachN N) (s.1, false) u) a)) t).1
            refine AWPD.seq fun K22 hK22 => ?_
            refine AWPD.seq fun K23 hK23 => ?_
            -- region 16
            refine AWPD.keep [1, 2, 3, 7, 8, 9, 10, 11, 12] rfl ?_
            refine AWPD.region tabOK rfl ?_
            refine hK23 _ _ ?_
            clear hK23
            first | refine AWPD.condP rfl (fun h5 => ?_) (fun h5 => ?_) | refine AWPD.condN rfl (fun h5 => ?_) (fun h5 => ?_) | refine AWPD.condAP rfl (fun h5 => ?_) (fun h5 => ?_) | refine AWPD.condOP rfl (fun h5 => ?_) (fun h5 => ?_) | refine AWPD.condONN rfl (fun h5 => ?_) (fun h5 => ?_) | refine AWPD.condOPN rfl (fun h5 => ?_) (fun h5 => ?_) | refine AWPD.condA rfl (fun h5 => ?_) (fun h5 => ?_) | refine AWPD.condO rfl (fun h5 => ?_) (fun h5 => ?_) | refine AWPD.cond rfl (fun h5 => ?_) (fun h5 => ?_)
            · try dsimp only [Ty.T] at h5
              try simp only [castL_self] at h5
              try simp only [Int.toNat_natCast] at h5
              try simp only [Int.toNat_zero] at h5
              have htn : t < N.length := by omega
              have hxt := g.nx_lt htn hal
              have hnt : ((N.getD t []).getD a 0).toNat < N.length := hxt.2.2
              have hrow2 := g.rowN _ htn
              have hX := cell_cond (x := reachN N) (l := (q2 N (reachN N) u a (q1 N A f part u a (q3 N A f part (reachN N) u (q4 N A f part (reachN N) (s.1, false) u) a)) t).1) hun htn
              refine AWPD.skip ?_
              refine hK22 _ _ ?_
              clear hK22
              refine AWPD.seq fun K24 hK24 => ?_
              refine AWPD.block ?_
              refine AWPD.seq fun K25 hK25 => ?_
              -- region 18
              refine AWPD.keep [1, 2, 3, 7, 8, 9, 10, 11, 12] rfl ?_
              refine AWPD.draw tabOK [32] rfl (by kernel_rfl) ?_
              refine Exists.intro _ (Exists.intro _ (And.intro (StepD.call (bit_fn ((reachN N : Nat) : Int) (t : Int) (by omega) (by omega)) rfl rfl rfl) (And.intro rfl (And.intro rfl ?_))))
              repeat refine And.intro (by first | exact fun h => h | exact fun _ => rfl | (intro h; rw [h]; rfl) | omega | (intros; (try dsimp only [Ty.T, Ty.size]); (try simp only [castL_self, Int.toNat_natCast, Int.toNat_zero, Int.toNat_one, true_and, List.length_append, List.length_set, List.length_drop, List.length_take, List.length_replicate, List.length_cons, List.length_nil, Nat.zero_add, Nat.mul_one]); omega) | decide | (intros; simp_all; done) | (intros; simp_all; omega)) ?_
              refine Exists.intro _ (Exists.intro _ (And.intro (fun hg => StepD.callO (i := 0) (join3_if (s := (N.getD u []).getD a 0) (t := (N.getD t []).getD a 0) (by omega) (by omega) (by omega) hg) rfl rfl rfl rfl (by first | exact rfl | exact row_free _ _ _) (by first | exact rfl | exact row_free _ _ _)) (And.intro (fun hf => by rw [hf]; rfl) (And.intro rfl (And.intro trivial ?_)))))
              repeat refine And.intro (by first | exact fun h => h | exact fun _ => rfl | (intro h; rw [h]; rfl) | omega | (intros; (try dsimp only [Ty.T, Ty.size]); (try simp only [castL_self, Int.toNat_natCast, Int.toNat_zero, Int.toNat_one, true_and, List.length_append, List.length_set, List.length_drop, List.length_take, List.length_replicate, List.length_cons, List.length_nil, Nat.zero_add, Nat.mul_one]); omega) | decide | (intros; simp_all; done) | (intros; simp_all; omega)) ?_
              refine hK25 _ _ ?_
              clear hK25
              first | refine AWPD.cond rfl (fun h6 => ?_) (fun h6 => ?_)
              · try dsimp only [Ty.T] at h6
                try simp only [castL_self] at h6
                try simp only [Int.toNat_natCast] at h6
                try simp only [Int.toNat_zero] at h6
                -- region 19
                refine AWPD.keep [1, 2, 3, 7, 8, 10, 11, 12] rfl ?_
                refine AWPD.region tabOK rfl ?_
                refine hK24 _ _ ?_
                clear hK24
                -- region 17
                refine AWPD.keep [1, 2, 3, 7, 8, 9, 10, 11, 12] rfl ?_
                refine AWPD.region tabOK rfl ?_
                repeat refine And.intro (by first | exact fun h => h | exact fun _ => rfl | (intro h; rw [h]; rfl) | omega | (intros; (try dsimp only [Ty.T, Ty.size]); (try simp only [castL_self, Int.toNat_natCast, Int.toNat_zero, Int.toNat_one, true_and, List.length_append, List.length_set, List.length_drop, List.length_take, List.length_replicate, List.length_cons, List.length_nil, Nat.zero_add, Nat.mul_one]); omega) | decide | (intros; simp_all; done) | (intros; simp_all; omega)) ?_
                refine ⟨n3 - 1, t + 1, [0], by omega, by omega, ⟨by decide, rfl⟩, ⟨⟨rfl, rfl, congrArg (labL N.length) (q2_obj hX)⟩, trivial⟩, ?_⟩
                repeat' first | exact q2_up hX h6 | exact q2_still hX h6 | exact True.intro | exact rfl | exact ⟨rfl, rfl⟩ | refine And.intro ?_ ?_
              · try dsimp only [Ty.T] at h6
                try simp only [castL_self] at h6
                try simp only [Int.toNat_natCast] at h6
                try simp only [Int.toNat_zero] at h6
                refine AWPD.skip ?_
                refine hK24 _ _ ?_
                clear hK24
                -- region 17
                refine AWPD.keep [1, 2, 3, 7, 8, 9, 10, 11, 12] rfl ?_
                refine AWPD.region tabOK rfl ?_
                repeat refine And.intro (by first | exact fun h => h | exact fun _ => rfl | (intro h; rw [h]; rfl) | omega | (intros; (try dsimp only [Ty.T, Ty.size]); (try simp only [castL_self, Int.toNat_natCast, Int.toNat_zero, Int.toNat_one, true_and, List.length_append, List.length_set, List.length_drop, List.length_take, List.length_replicate, List.length_cons, List.length_nil, Nat.zero_add, Nat.mul_one]); omega) | decide | (intros; simp_all; done) | (intros; simp_all; omega)) ?_
                refine ⟨n3 - 1, t + 1, [0], by omega, by omega, ⟨by decide, rfl⟩, ⟨⟨rfl, rfl, congrArg (labL N.length) (q2_obj hX)⟩, trivial⟩, ?_⟩
                repeat' first | exact q2_up hX h6 | exact q2_still hX h6 | exact True.intro | exact rfl | exact ⟨rfl, rfl⟩ | refine And.intro ?_ ?_
            · try dsimp only [Ty.T] at h5
              try simp only [castL_self] at h5
              try simp only [Int.toNat_natCast] at h5
              try simp only [Int.toNat_zero] at h5
              have htn : t = N.length := by omega
              refine AWPD.exit ?_
              refine hK18 _ _ ?_
              clear hK18
              -- region 12
              refine AWPD.keep [1, 2, 3, 7, 8, 9, 10, 11] rfl ?_
              refine AWPD.region tabOK rfl ?_
              repeat refine And.intro (by first | exact fun h => h | exact fun _ => rfl | (intro h; rw [h]; rfl) | omega | (intros; (try dsimp only [Ty.T, Ty.size]); (try simp only [castL_self, Int.toNat_natCast, Int.toNat_zero, Int.toNat_one, true_and, List.length_append, List.length_set, List.length_drop, List.length_take, List.length_replicate, List.length_cons, List.length_nil, Nat.zero_add, Nat.mul_one]); omega) | decide | (intros; simp_all; done) | (intros; simp_all; omega)) ?_
              refine ⟨n2 - 1, a + 1, [0], by omega, by omega, ⟨by decide, rfl⟩, ⟨⟨rfl, rfl, (by rw [htn]; rfl)⟩, trivial⟩, ?_⟩
              repeat' first | (rw [htn]; rfl) | exact True.intro | exact rfl | exact ⟨rfl, rfl⟩ | refine And.intro ?_ ?_
          · try dsimp only [Ty.T] at h4
            try simp only [castL_self] at h4
            try simp only [Int.toNat_natCast] at h4
            try simp only [Int.toNat_zero] at h4
            refine AWPD.skip ?_
            refine hK19 _ _ ?_
            clear hK19
            refine AWPD.seq fun K26 hK26 => ?_
            -- region 15
            refine AWPD.keep [1, 2, 3, 7, 8, 9, 10, 11] rfl ?_
            refine AWPD.region tabOK rfl ?_
            refine hK26 _ _ ?_
            clear hK26
            refine AWPD.block ?_
            -- LOOP 3 live [1, 2, 3, 7, 8, 9, 10, 11, 12] changed [9, 12]
            refine AWPD.loopK (σ := Nat) [1, 2, 3, 7, 10, 11] (fun t base => (8, .ob 0) :: (9, .b (q2 N (reachN N) u a (q1 N A f part u a (q3 N A f part (reachN N) u (q4 N A f part (reachN N) (s.1, false) u) a)) t).2) :: (12, .i (t : Int)) :: base) (fun t => [.row 3 .int (labL N.length (q2 N (reachN N) u a (q1 N A f part u a (q3 N A f part (reachN N) u (q4 N A f part (reachN N) (s.1, false) u) a)) t).1)]) (fun n t => n + t = N.length) (N.length) 0 [0] rfl rfl (by omega) (by decide) ⟨⟨rfl, rfl, congrArg (labL N.length) q1_obj⟩, trivial⟩ (by repeat' first | exact q1_up h4 | exact q1_still h4 | exact True.intro | exact rfl | exact ⟨rfl, rfl⟩ | refine And.intro ?_ ?_) fun n3 t hI3 => ?_
            have hn3 := hI3
            have hl3 := labL_len N.length (q2 N (reachN N) u a (q1 N A f part u a (q3 N A f part (reachN N) u (q4 N A f part (reachN N) (s.1, false) u) a)) t).1
            refine AWPD.seq fun K27 hK27 => ?_
            refine AWPD.seq fun K28 hK28 => ?_
            -- region 16
            refine AWPD.keep [1, 2, 3, 7, 8, 9, 10, 11, 12] rfl ?_
            refine AWPD.region tabOK rfl ?_
            refine hK28 _ _ ?_
            clear hK28
            first | refine AWPD.condP rfl (fun h5 => ?_) (fun h5 => ?_) | refine AWPD.condN rfl (fun h5 => ?_) (fun h5 => ?_) | refine AWPD.condAP rfl (fun h5 => ?_) (fun h5 => ?_) | refine AWPD.condOP rfl (fun h5 => ?_) (fun h5 => ?_) | refine AWPD.condONN rfl (fun h5 => ?_) (fun h5 => ?_) | refine AWPD.condOPN rfl (fun h5 => ?_) (fun h5 => ?_) | refine AWPD.condA rfl (fun h5 => ?_) (fun h5 => ?_) | refine AWPD.condO rfl (fun h5 => ?_) (fun h5 => ?_) | refine AWPD.cond rfl (fun h5 => ?_) (fun h5 => ?_)
            · try dsimp only [Ty.T] at h5
              try simp only [castL_self] at h5
              try simp only [Int.toNat_natCast] at h5
              try simp only [Int.toNat_zero] at h5
              have htn : t < N.length := by omega
              have hxt := g.nx_lt htn hal
              have hnt : ((N.getD t []).getD a 0).toNat < N.length := hxt.2.2
              have hrow2 := g.rowN _ htn
              have hX := cell_cond (x := reachN N) (l := (q2 N (reachN N) u a (q1 N A f part u a (q3 N A f part (reachN N) u (q4 N A f part (reachN N) (s.1, false) u) a)) t).1) hun htn
              refine AWPD.skip ?_
              refine hK27 _ _ ?_
              clear hK27
              refine AWPD.seq fun K29 hK29 => ?_
              refine AWPD.block ?_
              refine AWPD.seq fun K30 hK30 => ?_
              -- region 18
              refine AWPD.keep [1, 2, 3, 7, 8, 9, 10, 11, 12] rfl ?_
              refine AWPD.draw tabOK [32] rfl (by kernel_rfl) ?_
              refine Exists.intro _ (Exists.intro _ (And.intro (StepD.call (bit_fn ((reachN N : Nat) : Int) (t : Int) (by omega) (by omega)) rfl rfl rfl) (And.intro rfl (And.intro rfl ?_))))
              repeat refine And.intro (by first | exact fun h => h | exact fun _ => rfl | (intro h; rw [h]; rfl) | omega | (intros; (try dsimp only [Ty.T, Ty.size]); (try simp only [castL_self, Int.toNat_natCast, Int.toNat_zero, Int.toNat_one, true_and, List.length_append, List.length_set, List.length_drop, List.length_take, List.length_replicate, List.length_cons, List.length_nil, Nat.zero_add, Nat.mul_one]); omega) | decide | (intros; simp_all; done) | (intros; simp_all; omega)) ?_
              refine Exists.intro _ (Exists.intro _ (And.intro (fun hg => StepD.callO (i := 0) (join3_if (s := (N.getD u []).getD a 0) (t := (N.getD t []).getD a 0) (by omega) (by omega) (by omega) hg) rfl rfl rfl rfl (by first | exact rfl | exact row_free _ _ _) (by first | exact rfl | exact row_free _ _ _)) (And.intro (fun hf => by rw [hf]; rfl) (And.intro rfl (And.intro trivial ?_)))))
              repeat refine And.intro (by first | exact fun h => h | exact fun _ => rfl | (intro h; rw [h]; rfl) | omega | (intros; (try dsimp only [Ty.T, Ty.size]); (try simp only [castL_self, Int.toNat_natCast, Int.toNat_zero, Int.toNat_one, true_and, List.length_append, List.length_set, List.length_drop, List.length_take, List.length_replicate, List.length_cons, List.length_nil, Nat.zero_add, Nat.mul_one]); omega) | decide | (intros; simp_all; done) | (intros; simp_all; omega)) ?_
              refine hK30 _ _ ?_
              clear hK30
              first | refine AWPD.cond rfl (fun h6 => ?_) (fun h6 => ?_)
              · try dsimp only [Ty.T] at h6
                try simp only [castL_self] at h6
                try simp only [Int.toNat_natCast] at h6
                try simp only [Int.toNat_zero] at h6
                -- region 19
                refine AWPD.keep [1, 2, 3, 7, 8, 10, 11, 12] rfl ?_
                refine AWPD.region tabOK rfl ?_
                refine hK29 _ _ ?_
                clear hK29
                -- region 17
                refine AWPD.keep [1, 2, 3, 7, 8, 9, 10, 11, 12] rfl ?_
                refine AWPD.region tabOK rfl ?_
                repeat refine And.intro (by first | exact fun h => h | exact fun _ => rfl | (intro h; rw [h]; rfl) | omega | (intros; (try dsimp only [Ty.T, Ty.size]); (try simp only [castL_self, Int.toNat_natCast, Int.toNat_zero, Int.toNat_one, true_and, List.length_append, List.length_set, List.length_drop, List.length_take, List.length_replicate, List.length_cons, List.length_nil, Nat.zero_add, Nat.mul_one]); omega) | decide | (intros; simp_all; done) | (intros; simp_all; omega)) ?_
                refine ⟨n3 - 1, t + 1, [0], by omega, by omega, ⟨by decide, rfl⟩, ⟨⟨rfl, rfl, congrArg (labL N.length) (q2_obj hX)⟩, trivial⟩, ?_⟩
                repeat' first | exact q2_up hX h6 | exact q2_still hX h6 | exact True.intro | exact rfl | exact ⟨rfl, rfl⟩ | refine And.intro ?_ ?_
              · try dsimp only [Ty.T] at h6
                try simp only [castL_self] at h6
                try simp only [Int.toNat_natCast] at h6
                try simp only [Int.toNat_zero] at h6
                refine AWPD.skip ?_
                refine hK29 _ _ ?_
                clear hK29
                -- region 17
                refine AWPD.keep [1, 2, 3, 7, 8, 9, 10, 11, 12] rfl ?_
                refine AWPD.region tabOK rfl ?_
                repeat refine And.intro (by first | exact fun h => h | exact fun _ => rfl | (intro h; rw [h]; rfl) | omega | (intros; (try dsimp only [Ty.T, Ty.size]); (try simp only [castL_self, Int.toNat_natCast, Int.toNat_zero, Int.toNat_one, true_and, List.length_append, List.length_set, List.length_drop, List.length_take, List.length_replicate, List.length_cons, List.length_nil, Nat.zero_add, Nat.mul_one]); omega) | decide | (intros; simp_all; done) | (intros; simp_all; omega)) ?_
                refine ⟨n3 - 1, t + 1, [0], by omega, by omega, ⟨by decide, rfl⟩, ⟨⟨rfl, rfl, congrArg (labL N.length) (q2_obj hX)⟩, trivial⟩, ?_⟩
                repeat' first | exact q2_up hX h6 | exact q2_still hX h6 | exact True.intro | exact rfl | exact ⟨rfl, rfl⟩ | refine And.intro ?_ ?_
            · try dsimp only [Ty.T] at h5
              try simp only [castL_self] at h5
              try simp only [Int.toNat_natCast] at h5
              try simp only [Int.toNat_zero] at h5
              have htn : t = N.length := by omega
              refine AWPD.exit ?_
              refine hK18 _ _ ?_
              clear hK18
              -- region 12
              refine AWPD.keep [1, 2, 3, 7, 8, 9, 10, 11] rfl ?_
              refine AWPD.region tabOK rfl ?_
              repeat refine And.intro (by first | exact fun h => h | exact fun _ => rfl | (intro h; rw [h]; rfl) | omega | (intros; (try dsimp only [Ty.T, Ty.size]); (try simp only [castL_self, Int.toNat_natCast, Int.toNat_zero, Int.toNat_one, true_and, List.length_append, List.length_set, List.length_drop, List.length_take, List.length_replicate, List.length_cons, List.length_nil, Nat.zero_add, Nat.mul_one]); omega) | decide | (intros; simp_all; done) | (intros; simp_all; omega)) ?_
              refine ⟨n2 - 1, a + 1, [0], by omega, by omega, ⟨by decide, rfl⟩, ⟨⟨rfl, rfl, (by rw [htn]; rfl)⟩, trivial⟩, ?_⟩
              repeat' first | (rw [htn]; rfl) | exact True.intro | exact rfl | exact ⟨rfl, rfl⟩ | refine And.intro ?_ ?_
        · try dsimp only [Ty.T] at h3
          try simp only [castL_self] at h3
          try simp only [Int.toNat_natCast] at h3
          try simp only [Int.toNat_zero] at h3
          have hal : a = A.length := by omega
          refine AWPD.exit ?_
          refine hK12 _ _ ?_
          clear hK12
          -- region 8
          refine AWPD.keep [1, 2, 3, 7, 8, 9, 10] rfl ?_
          refine AWPD.region tabOK rfl ?_
          repeat refine And.intro (by first | exact fun h => h | exact fun _ => rfl | (intro h; rw [h]; rfl) | omega | (intros; (try dsimp only [Ty.T, Ty.size]); (try simp only [castL_self, Int.toNat_natCast, Int.toNat_zero, Int.toNat_one, true_and, List.length_append, List.length_set, List.length_drop, List.length_take, List.length_replicate, List.length_cons, List.length_nil, Nat.zero_add, Nat.mul_one]); omega) | decide | (intros; simp_all; done) | (intros; simp_all; omega)) ?_
          refine ⟨n1 - 1, u + 1, [0], by omega, by omega, ⟨by decide, rfl⟩, ⟨⟨rfl, rfl, congrArg (fun z : St => labL N.length z.1) (q4_yes hb hal)⟩, trivial⟩, ?_⟩
          repeat' first | exact congrArg Prod.snd (q4_no hb) | exact congrArg Prod.snd (q4_yes hb hal) | exact True.intro | exact rfl | exact ⟨rfl, rfl⟩ | refine And.intro ?_ ?_
    · try dsimp only [Ty.T] at h1
      try simp only [castL_self] at h1
      try simp only [Int.toNat_natCast] at h1
      try simp only [Int.toNat_zero] at h1
      have hun : u = N.length := by omega
      subst hun
      refine AWPD.exit ?_
      refine ⟨n0 - 1, rnd3 N A f part (reachN N) s.1, [0], by omega, g.round3 hrep hs3.1 hs3.2, ⟨by decide, rfl⟩, ⟨⟨rfl, rfl, rfl⟩, trivial⟩, ?_⟩
      repeat' first | exact True.intro | exact rfl | exact ⟨rfl, rfl⟩ | refine And.intro ?_ ?_
  · try dsimp only [Ty.T] at h0
    try simp only [castL_self] at h0
    try simp only [Int.toNat_natCast] at h0
    try simp only [Int.toNat_zero] at h0
    have hfin : s.1 = vF3 N A f part := by
      rcases hst with h | h
      · rw [h.1] at h0; cases h0
      · exact h.2
    refine AWPD.exit ?_
    refine hK5 _ _ ?_
    clear hK5
    refine AWPD.seq fun K31 hK31 => ?_
    -- region 20
    refine AWPD.freeze 8 rfl rfl rfl ?_
    refine AWPD.keep [7, 8] rfl ?_
    refine AWPD.region tabOK rfl ?_
    refine Exists.intro _ (Exists.intro _ (And.intro (StepD.callN (named_fn N.length (reachN N) _ (by omega) (by omega)) rfl rfl (by first | exact rfl | exact row_free _ _ _)) (And.intro rfl (And.intro trivial ?_))))
    refine hK31 _ _ ?_
    clear hK31
    refine AWPD.ret (And.intro (.inl rfl) ?_)
    -- result 0
    exact ⟨_, 1, rfl, rfl, by rw [hfin]; rfl, row_free _ _ _⟩

def alikeL (S : List (List Int)) (part : Int) (V : List Int) (n : Nat) : List Int := match hO S part V n with
  | some (s, t) => [(s : Int), (t : Int)]
  | none => []
theorem holdsL_ok {P : Int} {A : List Int} {N S : List (List Int)} {f : List Int} {part : Int} (h : chkE P A N S f part = 0) : holdsL P A N S f part = alikeL S part (viewsV P A N S f part) N.length := by unfold holdsL; rw [if_pos h]; rfl
theorem alikeL_len (S : List (List Int)) (part : Int) (V : List Int) (n : Nat) : (alikeL S part V n).length ≤ 2 := by
  unfold alikeL
  split <;> simp
theorem holdsB_ok {P : Int} {A : List Int} {N S : List (List Int)} {f : List Int} {part : Int} (h : chkE P A N S f part = 0) : holdsB P A N S f part = decide ((alikeL S part (viewsV P A N S f part) N.length).length = 0) := by
  unfold holdsB alikeL hoV
  rw [decide_eq_true h]
  cases hO S part (viewsV P A N S f part) N.length with
  | none => rfl
  | some q => rfl

theorem ralike_fn (P : Int) (A : List Int) (N S : List (List Int)) (V : List Int) (part : Int) (g : GoodM P A N S) (hp : 0 ≤ part ∧ part ≤ P - 1) (hv : V.length = N.length) : LiftsD Tryd.prog 41 [.agg [.i P, .sl .int A, .sl (.sl .int) N, .sl (.sl .int) S], .sl .int V, .i part] (.sl .int (alikeL S part V N.length)) := by
  have hN := g.few
  have hSl := g.lenS
  have hP := g.parts
  refine LiftsD.of_body 58 [.tmp 6] Tryd.func41 rfl Tryd.ntmps41 (by kernel_rfl) rfl rfl fun w0 X0 => ?_
  refine AWPD.seq fun K1 hK1 => ?_
  -- region 0
  refine AWPD.keep [0, 1, 2] rfl ?_
  refine AWPD.region tabOK rfl ?_
  refine hK1 _ _ ?_
  clear hK1
  refine AWPD.seq fun K2 hK2 => ?_
  refine AWPD.seq fun K3 hK3 => ?_
  -- region 1
  refine AWPD.keep [1, 2, 3] rfl ?_
  refine AWPD.region tabOK rfl ?_
  refine hK3 _ _ ?_
  clear hK3
  refine AWPD.block ?_
  -- LOOP 0 live [1, 2, 3, 7] changed [7]
  refine AWPD.loopK (σ := Nat) [1, 2, 3] (fun t base => (7, .i (t : Int)) :: base) (fun _ => []) (fun n t => n + t = N.length ∧ hO S part V t = none) (N.length) 0 [] rfl rfl (⟨by omega, rfl⟩) (by decide) trivial (by repeat' first | exact True.intro | exact rfl | exact ⟨rfl, rfl⟩ | refine And.intro ?_ ?_) fun n0 t hI0 => ?_
  obtain ⟨hn0, hv0⟩ := hI0
  refine AWPD.seq fun K4 hK4 => ?_
  refine AWPD.seq fun K5 hK5 => ?_
  -- region 2
  refine AWPD.keep [1, 2, 3, 7] rfl ?_
  refine AWPD.region tabOK rfl ?_
  refine hK5 _ _ ?_
  clear hK5
  first | refine AWPD.condP rfl (fun h0 => ?_) (fun h0 => ?_) | refine AWPD.condN rfl (fun h0 => ?_) (fun h0 => ?_) | refine AWPD.condAP rfl (fun h0 => ?_) (fun h0 => ?_) | refine AWPD.condOP rfl (fun h0 => ?_) (fun h0 => ?_) | refine AWPD.condONN rfl (fun h0 => ?_) (fun h0 => ?_) | refine AWPD.condOPN rfl (fun h0 => ?_) (fun h0 => ?_) | refine AWPD.condA rfl (fun h0 => ?_) (fun h0 => ?_) | refine AWPD.condO rfl (fun h0 => ?_) (fun h0 => ?_) | refine AWPD.cond rfl (fun h0 => ?_) (fun h0 => ?_)
  · try dsimp only [Ty.T] at h0
    try simp only [castL_self] at h0
    try simp only [Int.toNat_natCast] at h0
    try simp only [Int.toNat_zero] at h0
    have htl : t < N.length := by omega
    have hr1 := g.rowS t htl
    refine AWPD.skip ?_
    refine hK4 _ _ ?_
    clear hK4
    refine AWPD.seq fun K6 hK6 => ?_
    refine AWPD.block ?_
    refine AWPD.seq fun K7 hK7 => ?_
    -- region 4
    refine AWPD.keep [1, 2, 3, 7] rfl ?_
    refine AWPD.region tabOK rfl ?_
    refine hK7 _ _ ?_
    clear hK7
    refine AWPD.block ?_
    -- LOOP 1 live [1, 2, 3, 7, 8] changed [8]
    refine AWPD.loopK (σ := Nat) [1, 2, 3, 7] (fun s base => (8, .i (s : Int)) :: base) (fun _ => []) (fun n s => n + s = t ∧ hI S part V t s = none) (t) 0 [] rfl rfl (⟨by omega, rfl⟩) (by decide) trivial (by repeat' first | exact True.intro | exact rfl | exact ⟨rfl, rfl⟩ | refine And.intro ?_ ?_) fun n1 s hI1 => ?_
    obtain ⟨hn1, hv1⟩ := hI1
    refine AWPD.seq fun K8 hK8 => ?_
    refine AWPD.seq fun K9 hK9 => ?_
    -- region 5
    refine AWPD.keep [1, 2, 3, 7, 8] rfl ?_
    refine AWPD.region tabOK rfl ?_
    refine hK9 _ _ ?_
    clear hK9
    first | refine AWPD.condP rfl (fun h1 => ?_) (fun h1 => ?_) | refine AWPD.condN rfl (fun h1 => ?_) (fun h1 => ?_) | refine AWPD.condAP rfl (fun h1 => ?_) (fun h1 => ?_) | refine AWPD.condOP rfl (fun h1 => ?_) (fun h1 => ?_) | refine AWPD.condONN rfl (fun h1 => ?_) (fun h1 => ?_) | refine AWPD.condOPN rfl (fun h1 => ?_) (fun h1 => ?_) | refine AWPD.condA rfl (fun h1 => ?_) (fun h1 => ?_) | refine AWPD.condO rfl (fun h1 => ?_) (fun h1 => ?_) | refine AWPD.cond rfl (fun h1 => ?_) (fun h1 => ?_)
    · try dsimp only [Ty.T] at h1
      try simp only [castL_self] at h1
      try simp only [Int.toNat_natCast] at h1
      try simp only [Int.toNat_zero] at h1
      have hsl : s < t := by omega
      have hr2 := g.rowS s (by omega)
      refine AWPD.skip ?_
      refine hK8 _ _ ?_
      clear hK8
      refine AWPD.seq fun K10 hK10 => ?_
      refine AWPD.block ?_
      refine AWPD.seq fun K11 hK11 => ?_
      -- region 7
      refine AWPD.keep [1, 2, 3, 7, 8] rfl ?_
      refine AWPD.draw tabOK [] rfl (by kernel_rfl) ?_
      repeat refine And.intro (by first | exact fun h => h | exact fun _ => rfl | (intro h; rw [h]; rfl) | omega | (intros; (try dsimp only [Ty.T, Ty.size]); (try simp only [castL_self, Int.toNat_natCast, Int.toNat_zero, Int.toNat_one, true_and, List.length_append, List.length_set, List.length_drop, List.length_take, List.length_replicate, List.length_cons, List.length_nil, Nat.zero_add, Nat.mul_one]); omega) | decide | (intros; simp_all; done) | (intros; simp_all; omega)) ?_
      refine hK11 _ _ ?_
      clear hK11
      first | refine AWPD.cond rfl (fun h2 => ?_) (fun h2 => ?_)
      · try dsimp only [Ty.T] at h2
        try simp only [castL_self] at h2
        try simp only [Int.toNat_natCast] at h2
        try simp only [Int.toNat_zero] at h2
        have hb := bad_cond.1 h2
        refine AWPD.seq fun K12 hK12 => ?_
        -- region 8
        refine AWPD.keep [7, 8] rfl ?_
        refine AWPD.region tabOK rfl ?_
        refine hK12 _ _ ?_
        clear hK12
        refine AWPD.ret (And.intro (.inl rfl) ?_)
        -- result 0
        refine RetD.one ?_
        have ho := hO_at hv0 hv1 hsl htl hb
        exact ⟨rfl, (by unfold alikeL; rw [ho]; rfl)⟩
      · try dsimp only [Ty.T] at h2
        try simp only [castL_self] at h2
        try simp only [Int.toNat_natCast] at h2
        try simp only [Int.toNat_zero] at h2
        have hb := bad_not h2
        refine AWPD.skip ?_
        refine hK10 _ _ ?_
        clear hK10
        -- region 6
        refine AWPD.keep [1, 2, 3, 7, 8] rfl ?_
        refine AWPD.region tabOK rfl ?_
        repeat refine And.intro (by first | exact fun h => h | exact fun _ => rfl | (intro h; rw [h]; rfl) | omega | (intros; (try dsimp only [Ty.T, Ty.size]); (try simp only [castL_self, Int.toNat_natCast, Int.toNat_zero, Int.toNat_one, true_and, List.length_append, List.length_set, List.length_drop, List.length_take, List.length_replicate, List.length_cons, List.length_nil, Nat.zero_add, Nat.mul_one]); omega) | decide | (intros; simp_all; done) | (intros; simp_all; omega)) ?_
        refine ⟨n1 - 1, s + 1, [], by omega, ⟨by omega, hI_next hv1 hb⟩, ⟨by decide, rfl⟩, trivial, ?_⟩
        repeat' first | exact True.intro | exact rfl | exact ⟨rfl, rfl⟩ | refine And.intro ?_ ?_
    · try dsimp only [Ty.T] at h1
      try simp only [castL_self] at h1
      try simp only [Int.toNat_natCast] at h1
      try simp only [Int.toNat_zero] at h1
      have hsl : s = t := by omega
      have hv2 := hv1
      rw [hsl] at hv2
      refine AWPD.exit ?_
      refine hK6 _ _ ?_
      clear hK6
      -- region 3
      refine AWPD.keep [1, 2, 3, 7] rfl ?_
      refine AWPD.region tabOK rfl ?_
      repeat refine And.intro (by first | exact fun h => h | exact fun _ => rfl | (intro h; rw [h]; rfl) | omega | (intros; (try dsimp only [Ty.T, Ty.size]); (try simp only [castL_self, Int.toNat_natCast, Int.toNat_zero, Int.toNat_one, true_and, List.length_append, List.length_set, List.length_drop, List.length_take, List.length_replicate, List.length_cons, List.length_nil, Nat.zero_add, Nat.mul_one]); omega) | decide | (intros; simp_all; done) | (intros; simp_all; omega)) ?_
      refine ⟨n0 - 1, t + 1, [], by omega, ⟨by omega, hO_next hv0 hv2⟩, ⟨by decide, rfl⟩, trivial, ?_⟩
      repeat' first | exact True.intro | exact rfl | exact ⟨rfl, rfl⟩ | refine And.intro ?_ ?_
  · try dsimp only [Ty.T] at h0
    try simp only [castL_self] at h0
    try simp only [Int.toNat_natCast] at h0
    try simp only [Int.toNat_zero] at h0
    have htl : t = N.length := by omega
    refine AWPD.exit ?_
    refine hK2 _ _ ?_
    clear hK2
    refine AWPD.seq fun K13 hK13 => ?_
    -- region 9
    refine AWPD.keep [] rfl ?_
    refine AWPD.region tabOK rfl ?_
    refine hK13 _ _ ?_
    clear hK13
    refine AWPD.ret (And.intro (.inl rfl) ?_)
    -- result 1
    refine RetD.one ?_
    have ho : hO S part V N.length = none := by rw [← htl]; exact hv0
    exact fitN rfl (by unfold alikeL; rw [ho]) (by decide)
end Go.Proofs.YtndoigkmdcgjfaaDoor
