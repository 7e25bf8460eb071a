/-
  WALKS of queues: a thing is added, or has its place already. Laid by a program of mine out of the operations, with the results told by hand.
-/
import Derived.Test.YtndoigkmdcgjfaaDoorQwBa
import Derived.Test.YtndoigkmdcgjfaaDoorQwU
namespace Go.Proofs.YtndoigkmdcgjfaaDoor
open Go Go.Qw
set_option maxRecDepth 10000
set_option linter.unusedSimpArgs false
set_option linter.unusedVariables false
set_option linter.unusedSectionVars false


def qIdx (τ : Ty) (x : τ.T) (xs : List τ.T) : Int := (((idxK τ x xs 0).getD xs.length : Nat) : Int)
def qAdd (τ : Ty) (x : τ.T) (xs : List τ.T) : List τ.T := if (idxK τ x xs 0).isSome = true then xs else xs ++ [x]
def qNew (τ : Ty) (x : τ.T) (xs : List τ.T) : Bool := (idxK τ x xs 0).isNone

theorem addI_fn (q : Int) (xs : List (Int)) (hx : xs.length ≤ 1000000) : LiftsO Tryd.prog 56 [.op 0 0, .i q] (.que 76 3 .int xs) (.tup [.i (qIdx .int q xs), .b (qNew .int q xs)]) (.que 76 3 .int (qAdd .int q xs)) := by
  refine LiftsO.of_body 54 [.tmp 4, .tmp 5] Tryd.func56 rfl Tryd.ntmps56 (by kernel_rfl) rfl rfl fun w0 X0 F0 x0 => ?_
  refine AWPD.openQ rfl (by decide) (fun hnil => ?_) ?_
  · subst hnil
    refine AWPD.seq fun K1 hK1 => ?_
    -- region 0
    refine AWPD.keep [0, 1] rfl ?_
    refine AWPD.region tabOK rfl ?_
    refine hK1 _ _ ?_
    clear hK1
    refine AWPD.seq fun K2 hK2 => ?_
    refine AWPD.seq fun K3 hK3 => ?_
    -- region 1
    refine AWPD.keep [0, 1] rfl ?_
    refine AWPD.region tabOK rfl ?_
    repeat refine And.intro (by first | exact fun h => h | exact fun _ => rfl | (intro h; rw [h]; rfl) | omega | (intros; (try dsimp only [Ty.T, Ty.size]); (try simp only [castL_self, Int.toNat_natCast, Int.toNat_zero, Int.toNat_one, true_and, List.length_append, List.length_set, List.length_drop, List.length_take, List.length_replicate, List.length_cons, List.length_nil, Nat.zero_add, Nat.mul_one]); omega) | decide | (intros; simp_all; done) | (intros; simp_all; omega)) ?_
    refine Exists.intro _ (Exists.intro _ (And.intro (StepD.mapNilN (Tryd.underlying74) rfl rfl) (And.intro rfl (And.intro trivial ?_))))
    refine hK3 _ _ ?_
    clear hK3
    first | refine AWPD.cond rfl (fun h0 => ?_) (fun h0 => ?_)
    · try dsimp only [Ty.T] at h0
      try simp only [castL_self] at h0
      try simp only [Int.toNat_natCast] at h0
      try simp only [Int.toNat_zero] at h0
      -- region 2
      refine AWPD.keep [0, 1] rfl ?_
      refine AWPD.region tabOK rfl ?_
      refine Exists.intro _ (Exists.intro _ (And.intro (StepD.makeMap .int) (And.intro rfl (And.intro trivial ?_))))
      repeat refine And.intro (by first | exact fun h => h | exact fun _ => rfl | (intro h; rw [h]; rfl) | omega | (intros; (try dsimp only [Ty.T, Ty.size]); (try simp only [castL_self, Int.toNat_natCast, Int.toNat_zero, Int.toNat_one, true_and, List.length_append, List.length_set, List.length_drop, List.length_take, List.length_replicate, List.length_cons, List.length_nil, Nat.zero_add, Nat.mul_one]); omega) | decide | (intros; simp_all; done) | (intros; simp_all; omega)) ?_
      refine hK2 _ _ ?_
      clear hK2
      refine AWPD.seq fun K4 hK4 => ?_
      refine AWPD.seq fun K5 hK5 => ?_
      -- region 3
      refine AWPD.keep [0, 1] rfl ?_
      refine AWPD.region tabOK rfl ?_
      repeat refine And.intro (by first | exact fun h => h | exact fun _ => rfl | (intro h; rw [h]; rfl) | omega | (intros; (try dsimp only [Ty.T, Ty.size]); (try simp only [castL_self, Int.toNat_natCast, Int.toNat_zero, Int.toNat_one, true_and, List.length_append, List.length_set, List.length_drop, List.length_take, List.length_replicate, List.length_cons, List.length_nil, Nat.zero_add, Nat.mul_one]); omega) | decide | (intros; simp_all; done) | (intros; simp_all; omega)) ?_
      refine Exists.intro _ (Exists.intro _ (And.intro (StepD.lookup (τ := .int) (q := q) (mapC_ok (q := (74, 3)) (by kernel_rfl)) (keyC_ok (by kernel_rfl)) rfl rfl rfl) (And.intro rfl (And.intro trivial ?_))))
      refine hK5 _ _ ?_
      clear hK5
      refine AWPD.seq fun K6 hK6 => ?_
      -- region 4
      refine AWPD.keep [0, 1, 6, 7] rfl ?_
      refine AWPD.region tabOK rfl ?_
      refine hK6 _ _ ?_
      clear hK6
      first | refine AWPD.cond rfl (fun h1 => ?_) (fun h1 => ?_)
      · try dsimp only [Ty.T] at h1
        try simp only [castL_self] at h1
        try simp only [Int.toNat_natCast] at h1
        try simp only [Int.toNat_zero] at h1
        cases h1
      · try dsimp only [Ty.T] at h1
        try simp only [castL_self] at h1
        try simp only [Int.toNat_natCast] at h1
        try simp only [Int.toNat_zero] at h1
        refine AWPD.skip ?_
        refine hK4 _ _ ?_
        clear hK4
        refine AWPD.seq fun K7 hK7 => ?_
        -- region 6
        refine AWPD.keep [0, 1] rfl ?_
        refine AWPD.draw tabOK [10] rfl (by kernel_rfl) ?_
        repeat refine And.intro (by first | exact fun h => h | exact fun _ => rfl | (intro h; rw [h]; rfl) | omega | (intros; (try dsimp only [Ty.T, Ty.size]); (try simp only [castL_self, Int.toNat_natCast, Int.toNat_zero, Int.toNat_one, true_and, List.length_append, List.length_set, List.length_drop, List.length_take, List.length_replicate, List.length_cons, List.length_nil, Nat.zero_add, Nat.mul_one]); omega) | decide | (intros; simp_all; done) | (intros; simp_all; omega)) ?_
        refine Exists.intro _ (Exists.intro _ (And.intro (StepD.mapUpdate (τ := .int) (q := q) (mapC_ok (q := (74, 3)) (by kernel_rfl)) (keyC_ok (by kernel_rfl)) rfl rfl rfl rfl rfl rfl) (And.intro rfl (And.intro trivial ?_))))
        refine hK7 _ _ ?_
        clear hK7
        refine AWPD.seq fun K8 hK8 => ?_
        -- region 7
        refine AWPD.keep [0, 1] rfl ?_
        refine AWPD.region tabOK rfl ?_
        repeat refine And.intro (by first | exact fun h => h | exact fun _ => rfl | (intro h; rw [h]; rfl) | omega | (intros; (try dsimp only [Ty.T, Ty.size]); (try simp only [castL_self, Int.toNat_natCast, Int.toNat_zero, Int.toNat_one, true_and, List.length_append, List.length_set, List.length_drop, List.length_take, List.length_replicate, List.length_cons, List.length_nil, Nat.zero_add, Nat.mul_one]); omega) | decide | (intros; simp_all; done) | (intros; simp_all; omega)) ?_
        refine hK8 _ _ ?_
        clear hK8
        refine AWPD.seq fun K9 hK9 => ?_
        -- region 8
        refine AWPD.keep [0] rfl ?_
        refine AWPD.region tabOK rfl ?_
        repeat refine And.intro (by first | exact fun h => h | exact fun _ => rfl | (intro h; rw [h]; rfl) | omega | (intros; (try dsimp only [Ty.T, Ty.size]); (try simp only [castL_self, Int.toNat_natCast, Int.toNat_zero, Int.toNat_one, true_and, List.length_append, List.length_set, List.length_drop, List.length_take, List.length_replicate, List.length_cons, List.length_nil, Nat.zero_add, Nat.mul_one]); omega) | decide | (intros; simp_all; done) | (intros; simp_all; omega)) ?_
        refine hK9 _ _ ?_
        clear hK9
        refine AWPD.ret (And.intro (.inl rfl) ?_)
        -- result 0
        exact ⟨⟨⟨rfl, rfl, rfl⟩, ⟨rfl, rfl, rfl⟩⟩, FoldO.que (i := 1) (j := 2) rfl rfl rfl rfl⟩
    · try dsimp only [Ty.T] at h0
      try simp only [castL_self] at h0
      try simp only [Int.toNat_natCast] at h0
      try simp only [Int.toNat_zero] at h0
      cases h0
  · refine AWPD.seq fun K1 hK1 => ?_
    -- region 0
    refine AWPD.keep [0, 1] rfl ?_
    refine AWPD.region tabOK rfl ?_
    refine hK1 _ _ ?_
    clear hK1
    refine AWPD.seq fun K2 hK2 => ?_
    refine AWPD.seq fun K3 hK3 => ?_
    -- region 1
    refine AWPD.keep [0, 1] rfl ?_
    refine AWPD.region tabOK rfl ?_
    repeat refine And.intro (by first | exact fun h => h | exact fun _ => rfl | (intro h; rw [h]; rfl) | omega | (intros; (try dsimp only [Ty.T, Ty.size]); (try simp only [castL_self, Int.toNat_natCast, Int.toNat_zero, Int.toNat_one, true_and, List.length_append, List.length_set, List.length_drop, List.length_take, List.length_replicate, List.length_cons, List.length_nil, Nat.zero_add, Nat.mul_one]); omega) | decide | (intros; simp_all; done) | (intros; simp_all; omega)) ?_
    refine Exists.intro _ (Exists.intro _ (And.intro (StepD.mapNilO (Tryd.underlying74) rfl rfl rfl) (And.intro rfl (And.intro trivial ?_))))
    refine hK3 _ _ ?_
    clear hK3
    first | refine AWPD.cond rfl (fun h0 => ?_) (fun h0 => ?_)
    · try dsimp only [Ty.T] at h0
      try simp only [castL_self] at h0
      try simp only [Int.toNat_natCast] at h0
      try simp only [Int.toNat_zero] at h0
      cases h0
    · try dsimp only [Ty.T] at h0
      try simp only [castL_self] at h0
      try simp only [Int.toNat_natCast] at h0
      try simp only [Int.toNat_zero] at h0
      refine AWPD.skip ?_
      refine hK2 _ _ ?_
      clear hK2
      refine AWPD.seq fun K4 hK4 => ?_
      refine AWPD.seq fun K5 hK5 => ?_
      -- region 3
      refine AWPD.keep [0, 1] rfl ?_
      refine AWPD.region tabOK rfl ?_
      repeat refine And.intro (by first | exact fun h => h | exact fun _ => rfl | (intro h; rw [h]; rfl) | omega | (intros; (try dsimp only [Ty.T, Ty.size]); (try simp only [castL_self, Int.toNat_natCast, Int.toNat_zero, Int.toNat_one, true_and, List.length_append, List.length_set, List.length_drop, List.length_take, List.length_replicate, List.length_cons, List.length_nil, Nat.zero_add, Nat.mul_one]); omega) | decide | (intros; simp_all; done) | (intros; simp_all; omega)) ?_
      refine Exists.intro _ (Exists.intro _ (And.intro (StepD.lookup (τ := .int) (q := q) (mapC_ok (q := (74, 3)) (by kernel_rfl)) (keyC_ok (by kernel_rfl)) rfl rfl rfl) (And.intro rfl (And.intro trivial ?_))))
      refine hK5 _ _ ?_
      clear hK5
      refine AWPD.seq fun K6 hK6 => ?_
      -- region 4
      refine AWPD.keep [0, 1, 6, 7] rfl ?_
      refine AWPD.region tabOK rfl ?_
      refine hK6 _ _ ?_
      clear hK6
      first | refine AWPD.cond rfl (fun h1 => ?_) (fun h1 => ?_)
      · try dsimp only [Ty.T] at h1
        try simp only [castL_self] at h1
        try simp only [Int.toNat_natCast] at h1
        try simp only [Int.toNat_zero] at h1
        refine AWPD.seq fun K7 hK7 => ?_
        -- region 5
        refine AWPD.keep [6] rfl ?_
        refine AWPD.region tabOK rfl ?_
        refine hK7 _ _ ?_
        clear hK7
        refine AWPD.ret (And.intro (.inl rfl) ?_)
        -- result 0
        obtain ⟨k, hk⟩ := Option.isSome_iff_exists.1 h1
        exact ⟨⟨⟨rfl, by rw [qIdx, hk]; rfl, rfl⟩, ⟨rfl, by rw [qNew, hk]; rfl, rfl⟩⟩, by rw [show qAdd .int q xs = xs by rw [qAdd, if_pos h1]]; exact FoldO.que (i := 1) (j := 2) rfl rfl rfl rfl⟩
      · try dsimp only [Ty.T] at h1
        try simp only [castL_self] at h1
        try simp only [Int.toNat_natCast] at h1
        try simp only [Int.toNat_zero] at h1
        have hno : idxK .int q xs 0 = none := by simpa using h1
        refine AWPD.skip ?_
        refine hK4 _ _ ?_
        clear hK4
        refine AWPD.seq fun K8 hK8 => ?_
        -- region 6
        refine AWPD.keep [0, 1] rfl ?_
        refine AWPD.draw tabOK [10] rfl (by kernel_rfl) ?_
        repeat refine And.intro (by first | exact fun h => h | exact fun _ => rfl | (intro h; rw [h]; rfl) | omega | (intros; (try dsimp only [Ty.T, Ty.size]); (try simp only [castL_self, Int.toNat_natCast, Int.toNat_zero, Int.toNat_one, true_and, List.length_append, List.length_set, List.length_drop, List.length_take, List.length_replicate, List.length_cons, List.length_nil, Nat.zero_add, Nat.mul_one]); omega) | decide | (intros; simp_all; done) | (intros; simp_all; omega)) ?_
        refine Exists.intro _ (Exists.intro _ (And.intro (StepD.mapUpdate (τ := .int) (q := q) (mapC_ok (q := (74, 3)) (by kernel_rfl)) (keyC_ok (by kernel_rfl)) hno rfl rfl rfl rfl rfl) (And.intro rfl (And.intro trivial ?_))))
        refine hK8 _ _ ?_
        clear hK8
        refine AWPD.seq fun K9 hK9 => ?_
        -- region 7
        refine AWPD.keep [0, 1] rfl ?_
        refine AWPD.region tabOK rfl ?_
        repeat refine And.intro (by first | exact fun h => h | exact fun _ => rfl | (intro h; rw [h]; rfl) | omega | (intros; (try dsimp only [Ty.T, Ty.size]); (try simp only [castL_self, Int.toNat_natCast, Int.toNat_zero, Int.toNat_one, true_and, List.length_append, List.length_set, List.length_drop, List.length_take, List.length_replicate, List.length_cons, List.length_nil, Nat.zero_add, Nat.mul_one]); omega) | decide | (intros; simp_all; done) | (intros; simp_all; omega)) ?_
        refine hK9 _ _ ?_
        clear hK9
        refine AWPD.seq fun K10 hK10 => ?_
        -- region 8
        refine AWPD.keep [0] rfl ?_
        refine AWPD.region tabOK rfl ?_
        repeat refine And.intro (by first | exact fun h => h | exact fun _ => rfl | (intro h; rw [h]; rfl) | omega | (intros; (try dsimp only [Ty.T, Ty.size]); (try simp only [castL_self, Int.toNat_natCast, Int.toNat_zero, Int.toNat_one, true_and, List.length_append, List.length_set, List.length_drop, List.length_take, List.length_replicate, List.length_cons, List.length_nil, Nat.zero_add, Nat.mul_one]); omega) | decide | (intros; simp_all; done) | (intros; simp_all; omega)) ?_
        refine hK10 _ _ ?_
        clear hK10
        refine AWPD.ret (And.intro (.inl rfl) ?_)
        -- result 1
        exact ⟨⟨⟨rfl, by rw [qIdx, hno]; show ((xs ++ [q]).length : Int) - 1 = _; rw [List.length_append]; simp, rfl⟩, ⟨rfl, by rw [qNew, hno]; rfl, rfl⟩⟩, by rw [show qAdd .int q xs = xs ++ [q] by rw [qAdd, if_neg (by rw [hno]; decide)]]; exact FoldO.que (i := 1) (j := 3) rfl rfl rfl rfl⟩
theorem addP_fn (q : Int × Int) (xs : List (Int × Int)) (hx : xs.length ≤ 1000000) : LiftsO Tryd.prog 64 [.op 0 0, .agg [.i q.1, .i q.2]] (.que 88 91 .two xs) (.tup [.i (qIdx .two q xs), .b (qNew .two q xs)]) (.que 88 91 .two (qAdd .two q xs)) := by
  refine LiftsO.of_body 54 [.tmp 4, .tmp 5] Tryd.func64 rfl Tryd.ntmps64 (by kernel_rfl) rfl rfl fun w0 X0 F0 x0 => ?_
  refine AWPD.openQ rfl (by decide) (fun hnil => ?_) ?_
  · subst hnil
    refine AWPD.seq fun K1 hK1 => ?_
    -- region 0
    refine AWPD.keep [0, 1] rfl ?_
    refine AWPD.region tabOK rfl ?_
    refine hK1 _ _ ?_
    clear hK1
    refine AWPD.seq fun K2 hK2 => ?_
    refine AWPD.seq fun K3 hK3 => ?_
    -- region 1
    refine AWPD.keep [0, 3] rfl ?_
    refine AWPD.region tabOK rfl ?_
    repeat refine And.intro (by first | exact fun h => h | exact fun _ => rfl | (intro h; rw [h]; rfl) | omega | (intros; (try dsimp only [Ty.T, Ty.size]); (try simp only [castL_self, Int.toNat_natCast, Int.toNat_zero, Int.toNat_one, true_and, List.length_append, List.length_set, List.length_drop, List.length_take, List.length_replicate, List.length_cons, List.length_nil, Nat.zero_add, Nat.mul_one]); omega) | decide | (intros; simp_all; done) | (intros; simp_all; omega)) ?_
    refine Exists.intro _ (Exists.intro _ (And.intro (StepD.mapNilN (Tryd.underlying85) rfl rfl) (And.intro rfl (And.intro trivial ?_))))
    refine hK3 _ _ ?_
    clear hK3
    first | refine AWPD.cond rfl (fun h0 => ?_) (fun h0 => ?_)
    · try dsimp only [Ty.T] at h0
      try simp only [castL_self] at h0
      try simp only [Int.toNat_natCast] at h0
      try simp only [Int.toNat_zero] at h0
      -- region 2
      refine AWPD.keep [0, 3] rfl ?_
      refine AWPD.region tabOK rfl ?_
      refine Exists.intro _ (Exists.intro _ (And.intro (StepD.makeMap .two) (And.intro rfl (And.intro trivial ?_))))
      repeat refine And.intro (by first | exact fun h => h | exact fun _ => rfl | (intro h; rw [h]; rfl) | omega | (intros; (try dsimp only [Ty.T, Ty.size]); (try simp only [castL_self, Int.toNat_natCast, Int.toNat_zero, Int.toNat_one, true_and, List.length_append, List.length_set, List.length_drop, List.length_take, List.length_replicate, List.length_cons, List.length_nil, Nat.zero_add, Nat.mul_one]); omega) | decide | (intros; simp_all; done) | (intros; simp_all; omega)) ?_
      refine hK2 _ _ ?_
      clear hK2
      refine AWPD.seq fun K4 hK4 => ?_
      refine AWPD.seq fun K5 hK5 => ?_
      -- region 3
      refine AWPD.keep [0, 3] rfl ?_
      refine AWPD.draw tabOK [] rfl (by kernel_rfl) ?_
      repeat refine And.intro (by first | exact fun h => h | exact fun _ => rfl | (intro h; rw [h]; rfl) | omega | (intros; (try dsimp only [Ty.T, Ty.size]); (try simp only [castL_self, Int.toNat_natCast, Int.toNat_zero, Int.toNat_one, true_and, List.length_append, List.length_set, List.length_drop, List.length_take, List.length_replicate, List.length_cons, List.length_nil, Nat.zero_add, Nat.mul_one]); omega) | decide | (intros; simp_all; done) | (intros; simp_all; omega)) ?_
      refine Exists.intro _ (Exists.intro _ (And.intro (StepD.lookup (τ := .two) (q := q) (mapC_ok (q := (85, 91)) (by kernel_rfl)) (keyC_ok (by kernel_rfl)) rfl rfl rfl) (And.intro rfl (And.intro rfl ?_))))
      refine hK5 _ _ ?_
      clear hK5
      refine AWPD.seq fun K6 hK6 => ?_
      -- region 4
      refine AWPD.keep [0, 3, 6, 7] rfl ?_
      refine AWPD.region tabOK rfl ?_
      refine hK6 _ _ ?_
      clear hK6
      first | refine AWPD.cond rfl (fun h1 => ?_) (fun h1 => ?_)
      · try dsimp only [Ty.T] at h1
        try simp only [castL_self] at h1
        try simp only [Int.toNat_natCast] at h1
        try simp only [Int.toNat_zero] at h1
        cases h1
      · try dsimp only [Ty.T] at h1
        try simp only [castL_self] at h1
        try simp only [Int.toNat_natCast] at h1
        try simp only [Int.toNat_zero] at h1
        refine AWPD.skip ?_
        refine hK4 _ _ ?_
        clear hK4
        refine AWPD.seq fun K7 hK7 => ?_
        -- region 6
        refine AWPD.keep [0, 3] rfl ?_
        refine AWPD.draw tabOK [10] rfl (by kernel_rfl) ?_
        repeat refine And.intro (by first | exact fun h => h | exact fun _ => rfl | (intro h; rw [h]; rfl) | omega | (intros; (try dsimp only [Ty.T, Ty.size]); (try simp only [castL_self, Int.toNat_natCast, Int.toNat_zero, Int.toNat_one, true_and, List.length_append, List.length_set, List.length_drop, List.length_take, List.length_replicate, List.length_cons, List.length_nil, Nat.zero_add, Nat.mul_one]); omega) | decide | (intros; simp_all; done) | (intros; simp_all; omega)) ?_
        refine Exists.intro _ (Exists.intro _ (And.intro (StepD.mapUpdate (τ := .two) (q := q) (mapC_ok (q := (85, 91)) (by kernel_rfl)) (keyC_ok (by kernel_rfl)) rfl rfl rfl rfl rfl rfl) (And.intro rfl (And.intro trivial ?_))))
        refine hK7 _ _ ?_
        clear hK7
        refine AWPD.seq fun K8 hK8 => ?_
        -- region 7
        refine AWPD.keep [0, 3] rfl ?_
        refine AWPD.draw tabOK [7, 10] rfl (by kernel_rfl) ?_
        repeat refine And.intro (by first | exact fun h => h | exact fun _ => rfl | (intro h; rw [h]; rfl) | omega | (intros; (try dsimp only [Ty.T, Ty.size]); (try simp only [castL_self, Int.toNat_natCast, Int.toNat_zero, Int.toNat_one, true_and, List.length_append, List.length_set, List.length_drop, List.length_take, List.length_replicate, List.length_cons, List.length_nil, Nat.zero_add, Nat.mul_one]); omega) | decide | (intros; simp_all; done) | (intros; simp_all; omega)) ?_
        refine hK8 _ _ ?_
        clear hK8
        refine AWPD.seq fun K9 hK9 => ?_
        -- region 8
        refine AWPD.keep [0] rfl ?_
        refine AWPD.region tabOK rfl ?_
        repeat refine And.intro (by first | exact fun h => h | exact fun _ => rfl | (intro h; rw [h]; rfl) | omega | (intros; (try dsimp only [Ty.T, Ty.size]); (try simp only [castL_self, Int.toNat_natCast, Int.toNat_zero, Int.toNat_one, true_and, List.length_append, List.length_set, List.length_drop, List.length_take, List.length_replicate, List.length_cons, List.length_nil, Nat.zero_add, Nat.mul_one]); omega) | decide | (intros; simp_all; done) | (intros; simp_all; omega)) ?_
        refine hK9 _ _ ?_
        clear hK9
        refine AWPD.ret (And.intro (.inl rfl) ?_)
        -- result 0
        exact ⟨⟨⟨rfl, rfl, rfl⟩, ⟨rfl, rfl, rfl⟩⟩, FoldO.que (i := 1) (j := 2) rfl rfl rfl rfl⟩
    · try dsimp only [Ty.T] at h0
      try simp only [castL_self] at h0
      try simp only [Int.toNat_natCast] at h0
      try simp only [Int.toNat_zero] at h0
      cases h0
  · refine AWPD.seq fun K1 hK1 => ?_
    -- region 0
    refine AWPD.keep [0, 1] rfl ?_
    refine AWPD.region tabOK rfl ?_
    refine hK1 _ _ ?_
    clear hK1
    refine AWPD.seq fun K2 hK2 => ?_
    refine AWPD.seq fun K3 hK3 => ?_
    -- region 1
    refine AWPD.keep [0, 3] rfl ?_
    refine AWPD.region tabOK rfl ?_
    repeat refine And.intro (by first | exact fun h => h | exact fun _ => rfl | (intro h; rw [h]; rfl) | omega | (intros; (try dsimp only [Ty.T, Ty.size]); (try simp only [castL_self, Int.toNat_natCast, Int.toNat_zero, Int.toNat_one, true_and, List.length_append, List.length_set, List.length_drop, List.length_take, List.length_replicate, List.length_cons, List.length_nil, Nat.zero_add, Nat.mul_one]); omega) | decide | (intros; simp_all; done) | (intros; simp_all; omega)) ?_
    refine Exists.intro _ (Exists.intro _ (And.intro (StepD.mapNilO (Tryd.underlying85) rfl rfl rfl) (And.intro rfl (And.intro trivial ?_))))
    refine hK3 _ _ ?_
    clear hK3
    first | refine AWPD.cond rfl (fun h0 => ?_) (fun h0 => ?_)
    · try dsimp only [Ty.T] at h0
      try simp only [castL_self] at h0
      try simp only [Int.toNat_natCast] at h0
      try simp only [Int.toNat_zero] at h0
      cases h0
    · try dsimp only [Ty.T] at h0
      try simp only [castL_self] at h0
      try simp only [Int.toNat_natCast] at h0
      try simp only [Int.toNat_zero] at h0
      refine AWPD.skip ?_
      refine hK2 _ _ ?_
      clear hK2
      refine AWPD.seq fun K4 hK4 => ?_
      refine AWPD.seq fun K5 hK5 => ?_
      -- region 3
      refine AWPD.keep [0, 3] rfl ?_
      refine AWPD.draw tabOK [] rfl (by kernel_rfl) ?_
      repeat refine And.intro (by first | exact fun h => h | exact fun _ => rfl | (intro h; rw [h]; rfl) | omega | (intros; (try dsimp only [Ty.T, Ty.size]); (try simp only [castL_self, Int.toNat_natCast, Int.toNat_zero, Int.toNat_one, true_and, List.length_append, List.length_set, List.length_drop, List.length_take, List.length_replicate, List.length_cons, List.length_nil, Nat.zero_add, Nat.mul_one]); omega) | decide | (intros; simp_all; done) | (intros; simp_all; omega)) ?_
      refine Exists.intro _ (Exists.intro _ (And.intro (StepD.lookup (τ := .two) (q := q) (mapC_ok (q := (85, 91)) (by kernel_rfl)) (keyC_ok (by kernel_rfl)) rfl rfl rfl) (And.intro rfl (And.intro rfl ?_))))
      refine hK5 _ _ ?_
      clear hK5
      refine AWPD.seq fun K6 hK6 => ?_
      -- region 4
      refine AWPD.keep [0, 3, 6, 7] rfl ?_
      refine AWPD.region tabOK rfl ?_
      refine hK6 _ _ ?_
      clear hK6
      first | refine AWPD.cond rfl (fun h1 => ?_) (fun h1 => ?_)
      · try dsimp only [Ty.T] at h1
        try simp only [castL_self] at h1
        try simp only [Int.toNat_natCast] at h1
        try simp only [Int.toNat_zero] at h1
        refine AWPD.seq fun K7 hK7 => ?_
        -- region 5
        refine AWPD.keep [6] rfl ?_
        refine AWPD.region tabOK rfl ?_
        refine hK7 _ _ ?_
        clear hK7
        refine AWPD.ret (And.intro (.inl rfl) ?_)
        -- result 0
        obtain ⟨k, hk⟩ := Option.isSome_iff_exists.1 h1
        exact ⟨⟨⟨rfl, by rw [qIdx, hk]; rfl, rfl⟩, ⟨rfl, by rw [qNew, hk]; rfl, rfl⟩⟩, by rw [show qAdd .two q xs = xs by rw [qAdd, if_pos h1]]; exact FoldO.que (i := 1) (j := 2) rfl rfl rfl rfl⟩
      · try dsimp only [Ty.T] at h1
        try simp only [castL_self] at h1
        try simp only [Int.toNat_natCast] at h1
        try simp only [Int.toNat_zero] at h1
        have hno : idxK .two q xs 0 = none := by simpa using h1
        refine AWPD.skip ?_
        refine hK4 _ _ ?_
        clear hK4
        refine AWPD.seq fun K8 hK8 => ?_
        -- region 6
        refine AWPD.keep [0, 3] rfl ?_
        refine AWPD.draw tabOK [10] rfl (by kernel_rfl) ?_
        repeat refine And.intro (by first | exact fun h => h | exact fun _ => rfl | (intro h; rw [h]; rfl) | omega | (intros; (try dsimp only [Ty.T, Ty.size]); (try simp only [castL_self, Int.toNat_natCast, Int.toNat_zero, Int.toNat_one, true_and, List.length_append, List.length_set, List.length_drop, List.length_take, List.length_replicate, List.length_cons, List.length_nil, Nat.zero_add, Nat.mul_one]); omega) | decide | (intros; simp_all; done) | (intros; simp_all; omega)) ?_
        refine Exists.intro _ (Exists.intro _ (And.intro (StepD.mapUpdate (τ := .two) (q := q) (mapC_ok (q := (85, 91)) (by kernel_rfl)) (keyC_ok (by kernel_rfl)) hno rfl rfl rfl rfl rfl) (And.intro rfl (And.intro trivial ?_))))
        refine hK8 _ _ ?_
        clear hK8
        refine AWPD.seq fun K9 hK9 => ?_
        -- region 7
        refine AWPD.keep [0, 3] rfl ?_
        refine AWPD.draw tabOK [7, 10] rfl (by kernel_rfl) ?_
        repeat refine And.intro (by first | exact fun h => h | exact fun _ => rfl | (intro h; rw [h]; rfl) | omega | (intros; (try dsimp only [Ty.T, Ty.size]); (try simp only [castL_self, Int.toNat_natCast, Int.toNat_zero, Int.toNat_one, true_and, List.length_append, List.length_set, List.length_drop, List.length_take, List.length_replicate, List.length_cons, List.length_nil, Nat.zero_add, Nat.mul_one]); omega) | decide | (intros; simp_all; done) | (intros; simp_all; omega)) ?_
        refine hK9 _ _ ?_
        clear hK9
        refine AWPD.seq fun K10 hK10 => ?_
        -- region 8
        refine AWPD.keep [0] rfl ?_
        refine AWPD.region tabOK rfl ?_
        repeat refine And.intro (by first | exact fun h => h | exact fun _ => rfl | (intro h; rw [h]; rfl) | omega | (intros; (try dsimp only [Ty.T, Ty.size]); (try simp only [castL_self, Int.toNat_natCast, Int.toNat_zero, Int.toNat_one, true_and, List.length_append, List.length_set, List.length_drop, List.length_take, List.length_replicate, List.length_cons, List.length_nil, Nat.zero_add, Nat.mul_one]); omega) | decide | (intros; simp_all; done) | (intros; simp_all; omega)) ?_
        refine hK10 _ _ ?_
        clear hK10
        refine AWPD.ret (And.intro (.inl rfl) ?_)
        -- result 1
        exact ⟨⟨⟨rfl, by rw [qIdx, hno]; show ((xs ++ [q]).length : Int) - 1 = _; rw [List.length_append]; simp, rfl⟩, ⟨rfl, by rw [qNew, hno]; rfl, rfl⟩⟩, by rw [show qAdd .two q xs = xs ++ [q] by rw [qAdd, if_neg (by rw [hno]; decide)]]; exact FoldO.que (i := 1) (j := 3) rfl rfl rfl rfl⟩
theorem lenI_fn (xs : List (Int)) : LiftsO Tryd.prog 60 [.op 0 0] (.que 76 3 .int xs) (.i (xs.length : Int)) (.que 76 3 .int xs) := by
  refine LiftsO.of_body 8 [.tmp 2] Tryd.func60 rfl Tryd.ntmps60 (by kernel_rfl) rfl rfl fun w0 X0 F0 x0 => ?_
  refine AWPD.openQ rfl (by decide) (fun hnil => ?_) ?_
  · subst hnil
    refine AWPD.seq fun K1 hK1 => ?_
    -- region 0
    refine AWPD.keep [0] rfl ?_
    refine AWPD.region tabOK rfl ?_
    refine hK1 _ _ ?_
    clear hK1
    refine AWPD.seq fun K2 hK2 => ?_
    -- region 1
    refine AWPD.keep [0] rfl ?_
    refine AWPD.region tabOK rfl ?_
    repeat refine And.intro (by first | exact fun h => h | exact fun _ => rfl | (intro h; rw [h]; rfl) | omega | (intros; (try dsimp only [Ty.T, Ty.size]); (try simp only [castL_self, Int.toNat_natCast, Int.toNat_zero, Int.toNat_one, true_and, List.length_append, List.length_set, List.length_drop, List.length_take, List.length_replicate, List.length_cons, List.length_nil, Nat.zero_add, Nat.mul_one]); omega) | decide | (intros; simp_all; done) | (intros; simp_all; omega)) ?_
    refine hK2 _ _ ?_
    clear hK2
    refine AWPD.ret (And.intro (.inl rfl) ?_)
    -- result 0
    exact ⟨⟨rfl, rfl, rfl⟩, FoldO.queNil rfl⟩
  · refine AWPD.seq fun K1 hK1 => ?_
    -- region 0
    refine AWPD.keep [0] rfl ?_
    refine AWPD.region tabOK rfl ?_
    refine hK1 _ _ ?_
    clear hK1
    refine AWPD.seq fun K2 hK2 => ?_
    -- region 1
    refine AWPD.keep [0] rfl ?_
    refine AWPD.region tabOK rfl ?_
    repeat refine And.intro (by first | exact fun h => h | exact fun _ => rfl | (intro h; rw [h]; rfl) | omega | (intros; (try dsimp only [Ty.T, Ty.size]); (try simp only [castL_self, Int.toNat_natCast, Int.toNat_zero, Int.toNat_one, true_and, List.length_append, List.length_set, List.length_drop, List.length_take, List.length_replicate, List.length_cons, List.length_nil, Nat.zero_add, Nat.mul_one]); omega) | decide | (intros; simp_all; done) | (intros; simp_all; omega)) ?_
    refine hK2 _ _ ?_
    clear hK2
    refine AWPD.ret (And.intro (.inl rfl) ?_)
    -- result 0
    exact ⟨⟨rfl, rfl, rfl⟩, FoldO.que (i := 1) (j := 2) rfl rfl rfl rfl⟩
theorem lenP_fn (xs : List (Int × Int)) : LiftsO Tryd.prog 65 [.op 0 0] (.que 88 91 .two xs) (.i (xs.length : Int)) (.que 88 91 .two xs) := by
  refine LiftsO.of_body 8 [.tmp 2] Tryd.func65 rfl Tryd.ntmps65 (by kernel_rfl) rfl rfl fun w0 X0 F0 x0 => ?_
  refine AWPD.openQ rfl (by decide) (fun hnil => ?_) ?_
  · subst hnil
    refine AWPD.seq fun K1 hK1 => ?_
    -- region 0
    refine AWPD.keep [0] rfl ?_
    refine AWPD.region tabOK rfl ?_
    refine hK1 _ _ ?_
    clear hK1
    refine AWPD.seq fun K2 hK2 => ?_
    -- region 1
    refine AWPD.keep [0] rfl ?_
    refine AWPD.region tabOK rfl ?_
    repeat refine And.intro (by first | exact fun h => h | exact fun _ => rfl | (intro h; rw [h]; rfl) | omega | (intros; (try dsimp only [Ty.T, Ty.size]); (try simp only [castL_self, Int.toNat_natCast, Int.toNat_zero, Int.toNat_one, true_and, List.length_append, List.length_set, List.length_drop, List.length_take, List.length_replicate, List.length_cons, List.length_nil, Nat.zero_add, Nat.mul_one]); omega) | decide | (intros; simp_all; done) | (intros; simp_all; omega)) ?_
    refine hK2 _ _ ?_
    clear hK2
    refine AWPD.ret (And.intro (.inl rfl) ?_)
    -- result 0
    exact ⟨⟨rfl, rfl, rfl⟩, FoldO.queNil rfl⟩
  · refine AWPD.seq fun K1 hK1 => ?_
    -- region 0
    refine AWPD.keep [0] rfl ?_
    refine AWPD.region tabOK rfl ?_
    refine hK1 _ _ ?_
    clear hK1
    refine AWPD.seq fun K2 hK2 => ?_
    -- region 1
    refine AWPD.keep [0] rfl ?_
    refine AWPD.region tabOK rfl ?_
    repeat refine And.intro (by first | exact fun h => h | exact fun _ => rfl | (intro h; rw [h]; rfl) | omega | (intros; (try dsimp only [Ty.T, Ty.size]); (try simp only [castL_self, Int.toNat_natCast, Int.toNat_zero, Int.toNat_one, true_and, List.length_append, List.length_set, List.length_drop, List.length_take, List.length_replicate, List.length_cons, List.length_nil, Nat.zero_add, Nat.mul_one]); omega) | decide | (intros; simp_all; done) | (intros; simp_all; omega)) ?_
    refine hK2 _ _ ?_
    clear hK2
    refine AWPD.ret (And.intro (.inl rfl) ?_)
    -- result 0
    exact ⟨⟨rfl, rfl, rfl⟩, FoldO.que (i := 1) (j := 2) rfl rfl rfl rfl⟩
theorem atP_fn (i : Int) (xs : List (Int × Int)) (hi : 0 ≤ i ∧ i < xs.length) : LiftsO Tryd.prog 66 [.op 0 0, .i i] (.que 88 91 .two xs) (.agg [.i (xs.getD i.toNat (0, 0)).1, .i (xs.getD i.toNat (0, 0)).2]) (.que 88 91 .two xs) := by
  refine LiftsO.of_bodyC 12 4 91 Tryd.func66 rfl Tryd.ntmps66 (by kernel_rfl) rfl rfl fun w0 X0 F0 x0 => ?_
  refine AWPD.openQ rfl (by decide) (fun hnil => ?_) ?_
  · exfalso; subst hnil; simp at hi; try omega
  · refine AWPD.seq fun K1 hK1 => ?_
    -- region 0
    refine AWPD.keep [0, 1] rfl ?_
    refine AWPD.region tabOK rfl ?_
    refine hK1 _ _ ?_
    clear hK1
    refine AWPD.seq fun K2 hK2 => ?_
    -- region 1
    refine AWPD.keep [0, 1, 4] rfl ?_
    refine AWPD.region tabOK rfl ?_
    repeat refine And.intro (by first | exact fun h => h | exact fun _ => rfl | (intro h; rw [h]; rfl) | omega | (intros; (try dsimp only [Ty.T, Ty.size]); (try simp only [castL_self, Int.toNat_natCast, Int.toNat_zero, Int.toNat_one, true_and, List.length_append, List.length_set, List.length_drop, List.length_take, List.length_replicate, List.length_cons, List.length_nil, Nat.zero_add, Nat.mul_one]); omega) | decide | (intros; simp_all; done) | (intros; simp_all; omega)) ?_
    refine hK2 _ _ ?_
    clear hK2
    refine AWPD.ret (And.intro (.inl rfl) ?_)
    -- result 0
    exact ⟨⟨3, _, _, rfl, rfl, tabOK.agg (91, 2) (by decide), rfl, rfl⟩, FoldO.que (i := 1) (j := 2) rfl rfl rfl rfl⟩
theorem atI_fn (i : Int) (xs : List (Int)) (hi : 0 ≤ i ∧ i < xs.length) : LiftsO Tryd.prog 61 [.op 0 0, .i i] (.que 76 3 .int xs) (.i (xs.getD i.toNat 0)) (.que 76 3 .int xs) := by
  refine LiftsO.of_body 12 [.tmp 4] Tryd.func61 rfl Tryd.ntmps61 (by kernel_rfl) rfl rfl fun w0 X0 F0 x0 => ?_
  refine AWPD.openQ rfl (by decide) (fun hnil => ?_) ?_
  · exfalso; subst hnil; simp at hi; try omega
  · refine AWPD.seq fun K1 hK1 => ?_
    -- region 0
    refine AWPD.keep [0, 1] rfl ?_
    refine AWPD.region tabOK rfl ?_
    refine hK1 _ _ ?_
    clear hK1
    refine AWPD.seq fun K2 hK2 => ?_
    -- region 1
    refine AWPD.keep [0, 1] rfl ?_
    refine AWPD.region tabOK rfl ?_
    repeat refine And.intro (by first | exact fun h => h | exact fun _ => rfl | (intro h; rw [h]; rfl) | omega | (intros; (try dsimp only [Ty.T, Ty.size]); (try simp only [castL_self, Int.toNat_natCast, Int.toNat_zero, Int.toNat_one, true_and, List.length_append, List.length_set, List.length_drop, List.length_take, List.length_replicate, List.length_cons, List.length_nil, Nat.zero_add, Nat.mul_one]); omega) | decide | (intros; simp_all; done) | (intros; simp_all; omega)) ?_
    refine hK2 _ _ ?_
    clear hK2
    refine AWPD.ret (And.intro (.inl rfl) ?_)
    -- result 0
    exact ⟨⟨rfl, rfl, rfl⟩, FoldO.que (i := 1) (j := 2) rfl rfl rfl rfl⟩
end Go.Proofs.YtndoigkmdcgjfaaDoor
