/-
  WALKS of the laws UnwindTwo and UnwindLeast. Laid by a program of mine out of the operations, with the loops and results told by hand.
-/
import Derived.Test.YtndoigkmdcgjfaaDoorQwUw
namespace Go.Proofs.YtndoigkmdcgjfaaDoor
open Go Go.Qw
set_option maxRecDepth 10000
set_option linter.unusedSimpArgs false
set_option linter.unusedVariables false


/-- What other classes are asked for, of a state and an act. -/
def askA (A : List Int) (N : List (List Int)) (f : List Int) (part : Int) (o : List Int) (s a : Nat) : Prop :=
  (qaF A f part a = true → o.getD (nx N s a) 0 = o.getD s 0) ∧ ∀ t, (reachN N).testBit t = true → t < N.length → o.getD s 0 = o.getD t 0 → o.getD (nx N s a) 0 = o.getD (nx N t a) 0
/-- So far: of the states before i, of all acts. -/
def GA (A : List Int) (N : List (List Int)) (f : List Int) (part : Int) (o : List Int) (i : Nat) : Prop := o.length = N.length ∧ ∀ s, s < i → (reachN N).testBit s = true → ∀ a, a < A.length → askA A N f part o s a
def GB (A : List Int) (N : List (List Int)) (f : List Int) (part : Int) (o : List Int) (i a : Nat) : Prop := GA A N f part o i ∧ ∀ a', a' < a → askA A N f part o i a'
def GC (A : List Int) (N : List (List Int)) (f : List Int) (part : Int) (o : List Int) (i a t : Nat) : Prop := GB A N f part o i a ∧ (qaF A f part a = true → o.getD (nx N i a) 0 = o.getD i 0) ∧ ∀ t', t' < t → (reachN N).testBit t' = true → o.getD i 0 = o.getD t' 0 → o.getD (nx N i a) 0 = o.getD (nx N t' a) 0
theorem GA_zero {A : List Int} {N : List (List Int)} {f : List Int} {part : Int} {o : List Int} (h : o.length = N.length) : GA A N f part o 0 := ⟨h, fun s hs => absurd hs (by omega)⟩
theorem GA_skip {A : List Int} {N : List (List Int)} {f : List Int} {part : Int} {o : List Int} {i : Nat} (h : GA A N f part o i) (hb : (reachN N).testBit i = false) : GA A N f part o (i + 1) := ⟨h.1, fun s hs hr => by
  by_cases he : s = i
  · rw [he, hb] at hr; cases hr
  · exact h.2 s (by omega) hr⟩
theorem GA_next {A : List Int} {N : List (List Int)} {f : List Int} {part : Int} {o : List Int} {i : Nat} (h : GB A N f part o i A.length) : GA A N f part o (i + 1) := ⟨h.1.1, fun s hs hr => by
  by_cases he : s = i
  · rw [he]; exact h.2
  · exact h.1.2 s (by omega) hr⟩
theorem GB_zero {A : List Int} {N : List (List Int)} {f : List Int} {part : Int} {o : List Int} {i : Nat} (h : GA A N f part o i) : GB A N f part o i 0 := ⟨h, fun a ha => absurd ha (by omega)⟩
theorem GB_next {A : List Int} {N : List (List Int)} {f : List Int} {part : Int} {o : List Int} {i a : Nat} (h : GC A N f part o i a N.length) : GB A N f part o i (a + 1) := ⟨h.1.1, fun a' ha => by
  by_cases he : a' = a
  · rw [he]; exact ⟨h.2.1, fun t hr ht => h.2.2 t ht hr⟩
  · exact h.1.2 a' (by omega)⟩
theorem GC_next {A : List Int} {N : List (List Int)} {f : List Int} {part : Int} {o : List Int} {i a t : Nat} (h : GC A N f part o i a t) (hn : (reachN N).testBit t = true → o.getD i 0 = o.getD t 0 → o.getD (nx N i a) 0 = o.getD (nx N t a) 0) : GC A N f part o i a (t + 1) := ⟨h.1, h.2.1, fun t' ht => by
  by_cases he : t' = t
  · rw [he]; exact hn
  · exact h.2.2 t' (by omega)⟩
/-- Any such classes have in one what the views have. -/
theorem least_other {P : Int} {A : List Int} {N S : List (List Int)} (g : GoodM P A N S) {f : List Int} {part : Int} (he : chkE P A N S f part = 0) {o : List Int} (h : GA A N f part o N.length) {s t : Nat} (hs : s < N.length) (ht : t < N.length) (h1 : (reachN N).testBit s = true) (h2 : (reachN N).testBit t = true) (hv : (viewsV P A N S f part).getD s 0 = (viewsV P A N S f part).getD t 0) : o.getD s 0 = o.getD t 0 := by
  rw [viewsV_get he hs, viewsV_get he ht, num_iff hs ht h1 h2] at hv
  have hrl := g.reach_lt
  refine (g.vF_least f part).least (fun k => o.getD k 0) (fun s a hr ha hq => ?_) (fun s t hr hr2 hst a ha => ?_) s t hs ht hv
  · exact ((h.2 s (bit_lt hrl hr) hr a ha).1 hq).symm
  · exact (h.2 s (bit_lt hrl hr) hr a ha).2 t hr2 (bit_lt hrl hr2) hst
/-- What the views have of acts. -/
theorem GoodM.reach_nx {P : Int} {A : List Int} {N S : List (List Int)} (g : GoodM P A N S) {s a : Nat} (hr : (reachN N).testBit s = true) (ha : a < A.length) : (reachN N).testBit (nx N s a) = true := by
  have h0 := (g.reach_bit (x := (s : Int)) (by omega)).1 (by simpa using hr)
  have hx := g.nx_lt (bit_lt g.reach_lt hr) ha
  have := g.reach_next h0 ha
  rw [Int.toNat_natCast] at this
  exact (g.reach_bit hx.1).2 this
theorem views_quiet {P : Int} {A : List Int} {N S : List (List Int)} (g : GoodM P A N S) {f : List Int} {part : Int} (he : chkE P A N S f part = 0) {s a : Nat} (hr : (reachN N).testBit s = true) (ha : a < A.length) (hq : qaF A f part a = true) : (viewsV P A N S f part).getD (nx N s a) 0 = (viewsV P A N S f part).getD s 0 := by
  have hs := bit_lt g.reach_lt hr
  have hx := (g.nx_lt hs ha).2.2
  rw [viewsV_get he hs, viewsV_get he hx, num_iff hx hs (g.reach_nx hr ha) hr]
  exact ((g.vF_least f part).quiet s a hr ha hq).symm
theorem views_both {P : Int} {A : List Int} {N S : List (List Int)} (g : GoodM P A N S) {f : List Int} {part : Int} (he : chkE P A N S f part = 0) {s t a : Nat} (hr : (reachN N).testBit s = true) (hr2 : (reachN N).testBit t = true) (ha : a < A.length) (hv : (viewsV P A N S f part).getD s 0 = (viewsV P A N S f part).getD t 0) : (viewsV P A N S f part).getD (nx N s a) 0 = (viewsV P A N S f part).getD (nx N t a) 0 := by
  have hs := bit_lt g.reach_lt hr
  have ht := bit_lt g.reach_lt hr2
  have hx := (g.nx_lt hs ha).2.2
  have hy := (g.nx_lt ht ha).2.2
  rw [viewsV_get he hs, viewsV_get he ht, num_iff hs ht hr hr2] at hv
  rw [viewsV_get he hx, viewsV_get he hy, num_iff hx hy (g.reach_nx hr ha) (g.reach_nx hr2 ha)]
  exact (g.vF_least f part).both s t hr hr2 hv a ha
theorem views_off {P : Int} {A : List Int} {N S : List (List Int)} {f : List Int} {part : Int} (he : chkE P A N S f part = 0) {s : Nat} (hs : s < N.length) (hr : (reachN N).testBit s = false) : (viewsV P A N S f part).getD s 0 = -1 := by
  rw [viewsV_get he hs, ← numV_no hr]


theorem andB {p q : Bool} (h : (bif p then q else false) = true) : p = true ∧ q = true := by cases p <;> simp_all
theorem GC_zero {A : List Int} {N : List (List Int)} {f : List Int} {part : Int} {o : List Int} {i a : Nat} {b : Bool} (hb : b = true → GB A N f part o i a) (h : (bif b then (bif !(qaF A f part a) then true else decide (o.getD (nx N i a) 0 = o.getD i 0)) else false) = true) : GC A N f part o i a 0 := by
  obtain ⟨h1, h2⟩ := andB h
  refine ⟨hb h1, fun hq => ?_, fun t ht => absurd ht (by omega)⟩
  rw [hq] at h2
  exact of_decide_eq_true h2
theorem GC_step {A : List Int} {N : List (List Int)} {f : List Int} {part : Int} {o : List Int} {i a t : Nat} {b : Bool} (hb : b = true → GC A N f part o i a t) (h : (bif b then (bif decide (o.getD i 0 ≠ o.getD t 0) then true else decide (o.getD (nx N i a) 0 = o.getD (nx N t a) 0)) else false) = true) : GC A N f part o i a (t + 1) := by
  obtain ⟨h1, h2⟩ := andB h
  refine GC_next (hb h1) fun _ he => ?_
  rw [decide_eq_false (fun hne => hne he)] at h2
  exact of_decide_eq_true h2

set_option maxHeartbeats 4000000 in
theorem unwindLeast_fn (P : Int) (A : List Int) (N S : List (List Int)) (f : List Int) (part : Int) (other : List Int) : LiftsG Tryd.prog tabG 4 [.agg [.i P, .sl .int A, .sl (.sl .int) N, .sl (.sl .int) S], .sl .int f, .i part, .sl .int other] (.b true) := by
  refine LiftsG.of_body 238 [.tmp 8] Tryd.func4 rfl Tryd.ntmps4 (by kernel_rfl) rfl rfl fun w0 X0 hG0 => ?_
  refine AWPD.seq fun K1 hK1 => ?_
  -- region 0
  refine AWPD.keep [0, 1, 2, 3] rfl ?_
  refine AWPD.region tabOK rfl ?_
  refine hK1 _ _ ?_
  clear hK1
  refine AWPD.seq fun K2 hK2 => ?_
  -- region 1
  refine AWPD.keep [1, 2, 3, 4] rfl ?_
  refine AWPD.region tabOK rfl ?_
  refine Exists.intro _ (Exists.intro _ (And.intro (StepD.callG tabG_stays rfl hG0 (unwindFact_fn) rfl rfl rfl) (And.intro rfl (And.intro trivial ?_))))
  refine hK2 _ _ ?_
  clear hK2
  refine AWPD.seq fun K3 hK3 => ?_
  refine AWPD.seq fun K4 hK4 => ?_
  -- region 2
  refine AWPD.keep [1, 2, 3, 4, 9] rfl ?_
  refine AWPD.region tabOK rfl ?_
  refine hK4 _ _ ?_
  clear hK4
  first | refine AWPD.condP rfl (fun h0 => ?_) (fun h0 => ?_) | refine AWPD.condN rfl (fun h0 => ?_) (fun h0 => ?_) | refine AWPD.condAP rfl (fun h0 => ?_) (fun h0 => ?_) | refine AWPD.condOP rfl (fun h0 => ?_) (fun h0 => ?_) | refine AWPD.condONN rfl (fun h0 => ?_) (fun h0 => ?_) | refine AWPD.condOPN rfl (fun h0 => ?_) (fun h0 => ?_) | refine AWPD.condA rfl (fun h0 => ?_) (fun h0 => ?_) | refine AWPD.condO rfl (fun h0 => ?_) (fun h0 => ?_) | refine AWPD.cond rfl (fun h0 => ?_) (fun h0 => ?_)
  · try dsimp only [Ty.T] at h0
    try simp only [castL_self] at h0
    try simp only [Int.toNat_natCast] at h0
    try simp only [Int.toNat_zero] at h0
    exact absurd h0 (by decide)
  · try dsimp only [Ty.T] at h0
    try simp only [castL_self] at h0
    try simp only [Int.toNat_natCast] at h0
    try simp only [Int.toNat_zero] at h0
    refine AWPD.skip ?_
    refine hK3 _ _ ?_
    clear hK3
    refine AWPD.seq fun K5 hK5 => ?_
    -- region 4
    refine AWPD.keep [1, 2, 3, 4] rfl ?_
    refine AWPD.region tabOK rfl ?_
    repeat refine And.intro (by first | (intro hg; simp only [Bool.cond_true_left, Bool.cond_false_right, Bool.cond_true_right, Bool.cond_false_left, Bool.or_eq_true, Bool.and_eq_true, decide_eq_true_eq, Bool.or_eq_false_iff, Bool.and_eq_false_iff, decide_eq_false_iff_not, Bool.not_eq_true', Bool.not_eq_false', Bool.not_true, Bool.not_false] at hg; have h1 := hol hg; omega) | (intro hg; simp only [Bool.cond_true_left, Bool.cond_false_right, Bool.cond_true_right, Bool.cond_false_left, Bool.or_eq_true, Bool.and_eq_true, decide_eq_true_eq, Bool.or_eq_false_iff, Bool.and_eq_false_iff, decide_eq_false_iff_not, Bool.not_eq_true', Bool.not_eq_false', Bool.not_true, Bool.not_false] at hg; have h1 := hol hg.1; omega) | (intro hg; simp only [Bool.cond_true_left, Bool.cond_false_right, Bool.cond_true_right, Bool.cond_false_left, Bool.or_eq_true, Bool.and_eq_true, decide_eq_true_eq, Bool.or_eq_false_iff, Bool.and_eq_false_iff, decide_eq_false_iff_not, Bool.not_eq_true', Bool.not_eq_false', Bool.not_true, Bool.not_false] at hg; have h1 := hol2 hg; omega) | (intro hg; simp only [Bool.cond_true_left, Bool.cond_false_right, Bool.cond_true_right, Bool.cond_false_left, Bool.or_eq_true, Bool.and_eq_true, decide_eq_true_eq, Bool.or_eq_false_iff, Bool.and_eq_false_iff, decide_eq_false_iff_not, Bool.not_eq_true', Bool.not_eq_false', Bool.not_true, Bool.not_false] at hg; have h1 := hol2 hg.1; omega) | exact fun h => h | exact fun _ => rfl | (intro h; rw [h]; rfl) | omega | ((try dsimp only [Ty.T]); (try simp only [castL_self]); (try simp only [Int.toNat_natCast]); (try simp only [Int.toNat_zero]); (try simp only [true_and]); omega) | (intros; (try dsimp only [Ty.T]); (try simp only [castL_self]); (try simp only [Int.toNat_natCast]); (try simp only [Int.toNat_zero]); (try simp only [true_and]); omega) | ((try dsimp only [Ty.T, Ty.size]); (try simp only [castL_self, Int.toNat_natCast, Int.toNat_zero, true_and, List.length_append, List.length_set, List.length_cons, List.length_nil, Nat.zero_add, Nat.mul_one]); omega) | ((try dsimp only [Ty.T, Ty.size]); (try simp only [castL_self, Int.toNat_natCast, Int.toNat_zero, Int.toNat_one, true_and, List.length_append, List.length_set, List.length_drop, List.length_take, List.length_replicate, List.length_cons, List.length_nil, Nat.zero_add, Nat.mul_one]); omega) | decide | (intros; simp_all; done) | (intros; simp_all; omega)) ?_
    refine Exists.intro _ (Exists.intro _ (And.intro (StepD.callG tabG_stays rfl hG0 (views_fn _ _ _ _ _ _) rfl rfl rfl) (And.intro rfl (And.intro trivial ?_))))
    refine hK5 _ _ ?_
    clear hK5
    refine AWPD.seq fun K6 hK6 => ?_
    -- region 5
    refine AWPD.keep [1, 2, 3, 4, 10, 11] rfl ?_
    refine AWPD.region tabOK rfl ?_
    repeat refine And.intro (by first | (intro hg; simp only [Bool.cond_true_left, Bool.cond_false_right, Bool.cond_true_right, Bool.cond_false_left, Bool.or_eq_true, Bool.and_eq_true, decide_eq_true_eq, Bool.or_eq_false_iff, Bool.and_eq_false_iff, decide_eq_false_iff_not, Bool.not_eq_true', Bool.not_eq_false', Bool.not_true, Bool.not_false] at hg; have h1 := hol hg; omega) | (intro hg; simp only [Bool.cond_true_left, Bool.cond_false_right, Bool.cond_true_right, Bool.cond_false_left, Bool.or_eq_true, Bool.and_eq_true, decide_eq_true_eq, Bool.or_eq_false_iff, Bool.and_eq_false_iff, decide_eq_false_iff_not, Bool.not_eq_true', Bool.not_eq_false', Bool.not_true, Bool.not_false] at hg; have h1 := hol hg.1; omega) | (intro hg; simp only [Bool.cond_true_left, Bool.cond_false_right, Bool.cond_true_right, Bool.cond_false_left, Bool.or_eq_true, Bool.and_eq_true, decide_eq_true_eq, Bool.or_eq_false_iff, Bool.and_eq_false_iff, decide_eq_false_iff_not, Bool.not_eq_true', Bool.not_eq_false', Bool.not_true, Bool.not_false] at hg; have h1 := hol2 hg; omega) | (intro hg; simp only [Bool.cond_true_left, Bool.cond_false_right, Bool.cond_true_right, Bool.cond_false_left, Bool.or_eq_true, Bool.and_eq_true, decide_eq_true_eq, Bool.or_eq_false_iff, Bool.and_eq_false_iff, decide_eq_false_iff_not, Bool.not_eq_true', Bool.not_eq_false', Bool.not_true, Bool.not_false] at hg; have h1 := hol2 hg.1; omega) | exact fun h => h | exact fun _ => rfl | (intro h; rw [h]; rfl) | omega | ((try dsimp only [Ty.T]); (try simp only [castL_self]); (try simp only [Int.toNat_natCast]); (try simp only [Int.toNat_zero]); (try simp only [true_and]); omega) | (intros; (try dsimp only [Ty.T]); (try simp only [castL_self]); (try simp only [Int.toNat_natCast]); (try simp only [Int.toNat_zero]); (try simp only [true_and]); omega) | ((try dsimp only [Ty.T, Ty.size]); (try simp only [castL_self, Int.toNat_natCast, Int.toNat_zero, true_and, List.length_append, List.length_set, List.length_cons, List.length_nil, Nat.zero_add, Nat.mul_one]); omega) | ((try dsimp only [Ty.T, Ty.size]); (try simp only [castL_self, Int.toNat_natCast, Int.toNat_zero, Int.toNat_one, true_and, List.length_append, List.length_set, List.length_drop, List.length_take, List.length_replicate, List.length_cons, List.length_nil, Nat.zero_add, Nat.mul_one]); omega) | decide | (intros; simp_all; done) | (intros; simp_all; omega)) ?_
    refine Exists.intro _ (Exists.intro _ (And.intro (StepD.call (reached_fn _ _ _ _) rfl rfl rfl) (And.intro rfl (And.intro trivial ?_))))
    refine hK6 _ _ ?_
    clear hK6
    refine AWPD.seq fun K7 hK7 => ?_
    refine AWPD.seq fun K8 hK8 => ?_
    -- region 6
    refine AWPD.keep [1, 2, 3, 4, 10, 11, 12, 13] rfl ?_
    refine AWPD.region tabOK rfl ?_
    repeat refine And.intro (by first | (intro hg; simp only [Bool.cond_true_left, Bool.cond_false_right, Bool.cond_true_right, Bool.cond_false_left, Bool.or_eq_true, Bool.and_eq_true, decide_eq_true_eq, Bool.or_eq_false_iff, Bool.and_eq_false_iff, decide_eq_false_iff_not, Bool.not_eq_true', Bool.not_eq_false', Bool.not_true, Bool.not_false] at hg; have h1 := hol hg; omega) | (intro hg; simp only [Bool.cond_true_left, Bool.cond_false_right, Bool.cond_true_right, Bool.cond_false_left, Bool.or_eq_true, Bool.and_eq_true, decide_eq_true_eq, Bool.or_eq_false_iff, Bool.and_eq_false_iff, decide_eq_false_iff_not, Bool.not_eq_true', Bool.not_eq_false', Bool.not_true, Bool.not_false] at hg; have h1 := hol hg.1; omega) | (intro hg; simp only [Bool.cond_true_left, Bool.cond_false_right, Bool.cond_true_right, Bool.cond_false_left, Bool.or_eq_true, Bool.and_eq_true, decide_eq_true_eq, Bool.or_eq_false_iff, Bool.and_eq_false_iff, decide_eq_false_iff_not, Bool.not_eq_true', Bool.not_eq_false', Bool.not_true, Bool.not_false] at hg; have h1 := hol2 hg; omega) | (intro hg; simp only [Bool.cond_true_left, Bool.cond_false_right, Bool.cond_true_right, Bool.cond_false_left, Bool.or_eq_true, Bool.and_eq_true, decide_eq_true_eq, Bool.or_eq_false_iff, Bool.and_eq_false_iff, decide_eq_false_iff_not, Bool.not_eq_true', Bool.not_eq_false', Bool.not_true, Bool.not_false] at hg; have h1 := hol2 hg.1; omega) | exact fun h => h | exact fun _ => rfl | (intro h; rw [h]; rfl) | omega | ((try dsimp only [Ty.T]); (try simp only [castL_self]); (try simp only [Int.toNat_natCast]); (try simp only [Int.toNat_zero]); (try simp only [true_and]); omega) | (intros; (try dsimp only [Ty.T]); (try simp only [castL_self]); (try simp only [Int.toNat_natCast]); (try simp only [Int.toNat_zero]); (try simp only [true_and]); omega) | ((try dsimp only [Ty.T, Ty.size]); (try simp only [castL_self, Int.toNat_natCast, Int.toNat_zero, true_and, List.length_append, List.length_set, List.length_cons, List.length_nil, Nat.zero_add, Nat.mul_one]); omega) | ((try dsimp only [Ty.T, Ty.size]); (try simp only [castL_self, Int.toNat_natCast, Int.toNat_zero, Int.toNat_one, true_and, List.length_append, List.length_set, List.length_drop, List.length_take, List.length_replicate, List.length_cons, List.length_nil, Nat.zero_add, Nat.mul_one]); omega) | decide | (intros; simp_all; done) | (intros; simp_all; omega)) ?_
    refine hK8 _ _ ?_
    clear hK8
    first | refine AWPD.cond rfl (fun h1 => ?_) (fun h1 => ?_)
    · try dsimp only [Ty.T] at h1
      try simp only [castL_self] at h1
      try simp only [Int.toNat_natCast] at h1
      try simp only [Int.toNat_zero] at h1
      try simp only [Bool.cond_true_left, Bool.cond_false_right, Bool.cond_true_right, Bool.cond_false_left, Bool.or_eq_true, Bool.and_eq_true, decide_eq_true_eq, Bool.or_eq_false_iff, Bool.and_eq_false_iff, decide_eq_false_iff_not, Bool.not_eq_true', Bool.not_eq_false', Bool.not_eq_eq_eq_not, Bool.not_true, Bool.not_false] at h1
      refine AWPD.seq fun K9 hK9 => ?_
      -- region 7
      refine AWPD.keep [10] rfl ?_
      refine AWPD.region tabOK rfl ?_
      refine hK9 _ _ ?_
      clear hK9
      refine AWPD.ret (And.intro (.inl rfl) ?_)
      -- result 0
      refine RetD.one ?_
      refine fitB rfl ?_
      have hz : chkE P A N S f part ≠ 0 := by
        intro hz
        have := (pol_ok (chk_ok hz).1).1
        omega
      unfold viewsV
      rw [if_neg hz]
      rfl
    · try dsimp only [Ty.T] at h1
      try simp only [castL_self] at h1
      try simp only [Int.toNat_natCast] at h1
      try simp only [Int.toNat_zero] at h1
      try simp only [Bool.cond_true_left, Bool.cond_false_right, Bool.cond_true_right, Bool.cond_false_left, Bool.or_eq_true, Bool.and_eq_true, decide_eq_true_eq, Bool.or_eq_false_iff, Bool.and_eq_false_iff, decide_eq_false_iff_not, Bool.not_eq_true', Bool.not_eq_false', Bool.not_eq_eq_eq_not, Bool.not_true, Bool.not_false] at h1
      have he : chkE P A N S f part = 0 := by omega
      obtain ⟨hpol, hp1, hp2⟩ := chk_ok he
      obtain ⟨hme, gf⟩ := pol_ok hpol
      have g := mach_good hme
      have hN := g.few
      have hP := g.parts
      have hvl := viewsV_len he
      have hri := g.reach_in
      have hrv : reachV P A N S = ((reachN N : Nat) : Int) := by unfold reachV; rw [if_pos hme]
      have hA6 := g.acts6
      have hfl := gf.len
      have hrN : ∀ k, k < N.length → (N.getD k []).length = A.length := g.rowN
      refine AWPD.skip ?_
      refine hK7 _ _ ?_
      clear hK7
      refine AWPD.seq fun K10 hK10 => ?_
      -- region 8
      refine AWPD.keep [1, 2, 3, 4, 10, 12] rfl ?_
      refine AWPD.region tabOK rfl ?_
      repeat refine And.intro (by first | (intro hg; simp only [Bool.cond_true_left, Bool.cond_false_right, Bool.cond_true_right, Bool.cond_false_left, Bool.or_eq_true, Bool.and_eq_true, decide_eq_true_eq, Bool.or_eq_false_iff, Bool.and_eq_false_iff, decide_eq_false_iff_not, Bool.not_eq_true', Bool.not_eq_false', Bool.not_true, Bool.not_false] at hg; have h1 := hol hg; omega) | (intro hg; simp only [Bool.cond_true_left, Bool.cond_false_right, Bool.cond_true_right, Bool.cond_false_left, Bool.or_eq_true, Bool.and_eq_true, decide_eq_true_eq, Bool.or_eq_false_iff, Bool.and_eq_false_iff, decide_eq_false_iff_not, Bool.not_eq_true', Bool.not_eq_false', Bool.not_true, Bool.not_false] at hg; have h1 := hol hg.1; omega) | (intro hg; simp only [Bool.cond_true_left, Bool.cond_false_right, Bool.cond_true_right, Bool.cond_false_left, Bool.or_eq_true, Bool.and_eq_true, decide_eq_true_eq, Bool.or_eq_false_iff, Bool.and_eq_false_iff, decide_eq_false_iff_not, Bool.not_eq_true', Bool.not_eq_false', Bool.not_true, Bool.not_false] at hg; have h1 := hol2 hg; omega) | (intro hg; simp only [Bool.cond_true_left, Bool.cond_false_right, Bool.cond_true_right, Bool.cond_false_left, Bool.or_eq_true, Bool.and_eq_true, decide_eq_true_eq, Bool.or_eq_false_iff, Bool.and_eq_false_iff, decide_eq_false_iff_not, Bool.not_eq_true', Bool.not_eq_false', Bool.not_true, Bool.not_false] at hg; have h1 := hol2 hg.1; omega) | exact fun h => h | exact fun _ => rfl | (intro h; rw [h]; rfl) | omega | ((try dsimp only [Ty.T]); (try simp only [castL_self]); (try simp only [Int.toNat_natCast]); (try simp only [Int.toNat_zero]); (try simp only [true_and]); omega) | (intros; (try dsimp only [Ty.T]); (try simp only [castL_self]); (try simp only [Int.toNat_natCast]); (try simp only [Int.toNat_zero]); (try simp only [true_and]); omega) | ((try dsimp only [Ty.T, Ty.size]); (try simp only [castL_self, Int.toNat_natCast, Int.toNat_zero, true_and, List.length_append, List.length_set, List.length_cons, List.length_nil, Nat.zero_add, Nat.mul_one]); omega) | ((try dsimp only [Ty.T, Ty.size]); (try simp only [castL_self, Int.toNat_natCast, Int.toNat_zero, Int.toNat_one, true_and, List.length_append, List.length_set, List.length_drop, List.length_take, List.length_replicate, List.length_cons, List.length_nil, Nat.zero_add, Nat.mul_one]); omega) | decide | (intros; simp_all; done) | (intros; simp_all; omega)) ?_
      refine hK10 _ _ ?_
      clear hK10
      refine AWPD.seq fun K11 hK11 => ?_
      refine AWPD.seq fun K12 hK12 => ?_
      -- region 9
      rw [hrv]
      refine AWPD.keep [1, 2, 3, 4, 10, 12, 14] rfl ?_
      refine AWPD.region tabOK rfl ?_
      repeat refine And.intro (by first | (intro hg; simp only [Bool.cond_true_left, Bool.cond_false_right, Bool.cond_true_right, Bool.cond_false_left, Bool.or_eq_true, Bool.and_eq_true, decide_eq_true_eq, Bool.or_eq_false_iff, Bool.and_eq_false_iff, decide_eq_false_iff_not, Bool.not_eq_true', Bool.not_eq_false', Bool.not_true, Bool.not_false] at hg; have h1 := hol hg; omega) | (intro hg; simp only [Bool.cond_true_left, Bool.cond_false_right, Bool.cond_true_right, Bool.cond_false_left, Bool.or_eq_true, Bool.and_eq_true, decide_eq_true_eq, Bool.or_eq_false_iff, Bool.and_eq_false_iff, decide_eq_false_iff_not, Bool.not_eq_true', Bool.not_eq_false', Bool.not_true, Bool.not_false] at hg; have h1 := hol hg.1; omega) | (intro hg; simp only [Bool.cond_true_left, Bool.cond_false_right, Bool.cond_true_right, Bool.cond_false_left, Bool.or_eq_true, Bool.and_eq_true, decide_eq_true_eq, Bool.or_eq_false_iff, Bool.and_eq_false_iff, decide_eq_false_iff_not, Bool.not_eq_true', Bool.not_eq_false', Bool.not_true, Bool.not_false] at hg; have h1 := hol2 hg; omega) | (intro hg; simp only [Bool.cond_true_left, Bool.cond_false_right, Bool.cond_true_right, Bool.cond_false_left, Bool.or_eq_true, Bool.and_eq_true, decide_eq_true_eq, Bool.or_eq_false_iff, Bool.and_eq_false_iff, decide_eq_false_iff_not, Bool.not_eq_true', Bool.not_eq_false', Bool.not_true, Bool.not_false] at hg; have h1 := hol2 hg.1; omega) | exact fun h => h | exact fun _ => rfl | (intro h; rw [h]; rfl) | omega | ((try dsimp only [Ty.T]); (try simp only [castL_self]); (try simp only [Int.toNat_natCast]); (try simp only [Int.toNat_zero]); (try simp only [true_and]); omega) | (intros; (try dsimp only [Ty.T]); (try simp only [castL_self]); (try simp only [Int.toNat_natCast]); (try simp only [Int.toNat_zero]); (try simp only [true_and]); omega) | ((try dsimp only [Ty.T, Ty.size]); (try simp only [castL_self, Int.toNat_natCast, Int.toNat_zero, true_and, List.length_append, List.length_set, List.length_cons, List.length_nil, Nat.zero_add, Nat.mul_one]); omega) | ((try dsimp only [Ty.T, Ty.size]); (try simp only [castL_self, Int.toNat_natCast, Int.toNat_zero, Int.toNat_one, true_and, List.length_append, List.length_set, List.length_drop, List.length_take, List.length_replicate, List.length_cons, List.length_nil, Nat.zero_add, Nat.mul_one]); omega) | decide | (intros; simp_all; done) | (intros; simp_all; omega)) ?_
      refine hK12 _ _ ?_
      clear hK12
      first | refine AWPD.cond rfl (fun h2 => ?_) (fun h2 => ?_)
      · try dsimp only [Ty.T] at h2
        try simp only [castL_self] at h2
        try simp only [Int.toNat_natCast] at h2
        try simp only [Int.toNat_zero] at h2
        try simp only [Bool.cond_true_left, Bool.cond_false_right, Bool.cond_true_right, Bool.cond_false_left, Bool.or_eq_true, Bool.and_eq_true, decide_eq_true_eq, Bool.or_eq_false_iff, Bool.and_eq_false_iff, decide_eq_false_iff_not, Bool.not_eq_true', Bool.not_eq_false', Bool.not_eq_eq_eq_not, Bool.not_true, Bool.not_false] at h2
        exfalso; omega
      · try dsimp only [Ty.T] at h2
        try simp only [castL_self] at h2
        try simp only [Int.toNat_natCast] at h2
        try simp only [Int.toNat_zero] at h2
        try simp only [Bool.cond_true_left, Bool.cond_false_right, Bool.cond_true_right, Bool.cond_false_left, Bool.or_eq_true, Bool.and_eq_true, decide_eq_true_eq, Bool.or_eq_false_iff, Bool.and_eq_false_iff, decide_eq_false_iff_not, Bool.not_eq_true', Bool.not_eq_false', Bool.not_eq_eq_eq_not, Bool.not_true, Bool.not_false] at h2
        refine AWPD.skip ?_
        refine hK11 _ _ ?_
        clear hK11
        refine AWPD.seq fun K13 hK13 => ?_
        -- region 11
        refine AWPD.keep [1, 2, 3, 4, 10, 12, 14] rfl ?_
        refine AWPD.region tabOK rfl ?_
        refine hK13 _ _ ?_
        clear hK13
        refine AWPD.seq fun K14 hK14 => ?_
        refine AWPD.seq fun K15 hK15 => ?_
        -- region 12
        refine AWPD.keep [1, 2, 3, 4, 10, 12, 14, 15] rfl ?_
        refine AWPD.region tabOK rfl ?_
        refine hK15 _ _ ?_
        clear hK15
        refine AWPD.block ?_
        -- LOOP 0 live [1, 2, 3, 4, 10, 12, 14, 15, 16] changed [15, 16]
        refine AWPD.loopK (σ := Nat × Bool) [1, 2, 3, 4, 10, 12, 14] (fun s base => (15, .b s.2) :: (16, .i (s.1 : Int)) :: base) (fun _ => []) (fun n s => n + s.1 = N.length ∧ (s.2 = true → GA A N f part other s.1)) N.length (0, decide ((other.length : Int) = (N.length : Int))) [] rfl rfl (⟨by show N.length + 0 = N.length; omega, fun h => GA_zero (by have := of_decide_eq_true h; omega)⟩) (by decide) trivial (by repeat' first | exact True.intro | exact rfl | exact ⟨rfl, rfl⟩ | refine And.intro ?_ ?_) fun n0 s hI0 => ?_
        obtain ⟨hn0, hga⟩ := hI0
        refine AWPD.seq fun K16 hK16 => ?_
        refine AWPD.seq fun K17 hK17 => ?_
        -- region 13
        refine AWPD.keep [1, 2, 3, 4, 10, 12, 14, 15, 16] rfl ?_
        refine AWPD.region tabOK rfl ?_
        refine hK17 _ _ ?_
        clear hK17
        first | refine AWPD.condP rfl (fun h3 => ?_) (fun h3 => ?_) | refine AWPD.condN rfl (fun h3 => ?_) (fun h3 => ?_) | refine AWPD.condAP rfl (fun h3 => ?_) (fun h3 => ?_) | refine AWPD.condOP rfl (fun h3 => ?_) (fun h3 => ?_) | refine AWPD.condONN rfl (fun h3 => ?_) (fun h3 => ?_) | refine AWPD.condOPN rfl (fun h3 => ?_) (fun h3 => ?_) | refine AWPD.condA rfl (fun h3 => ?_) (fun h3 => ?_) | refine AWPD.condO rfl (fun h3 => ?_) (fun h3 => ?_) | refine AWPD.cond rfl (fun h3 => ?_) (fun h3 => ?_)
        · try dsimp only [Ty.T] at h3
          try simp only [castL_self] at h3
          try simp only [Int.toNat_natCast] at h3
          try simp only [Int.toNat_zero] at h3
          have hil : s.1 < N.length := by omega
          refine AWPD.skip ?_
          refine hK16 _ _ ?_
          clear hK16
          refine AWPD.seq fun K18 hK18 => ?_
          refine AWPD.block ?_
          refine AWPD.seq fun K19 hK19 => ?_
          refine AWPD.seq fun K20 hK20 => ?_
          -- region 15
          refine AWPD.keep [1, 2, 3, 4, 10, 12, 14, 15, 16] rfl ?_
          refine AWPD.region tabOK rfl ?_
          refine Exists.intro _ (Exists.intro _ (And.intro (StepD.call (bit_fn ((reachN N : Nat) : Int) (s.1 : Int) (by omega) (by omega)) rfl rfl rfl) (And.intro rfl (And.intro trivial ?_))))
          refine hK20 _ _ ?_
          clear hK20
          first | refine AWPD.cond rfl (fun h4 => ?_) (fun h4 => ?_)
          · try dsimp only [Ty.T] at h4
            try simp only [castL_self] at h4
            try simp only [Int.toNat_natCast] at h4
            try simp only [Int.toNat_zero] at h4
            try simp only [Bool.cond_true_left, Bool.cond_false_right, Bool.cond_true_right, Bool.cond_false_left, Bool.or_eq_true, Bool.and_eq_true, decide_eq_true_eq, Bool.or_eq_false_iff, Bool.and_eq_false_iff, decide_eq_false_iff_not, Bool.not_eq_true', Bool.not_eq_false', Bool.not_eq_eq_eq_not, Bool.not_true, Bool.not_false] at h4
            refine AWPD.seq fun K21 hK21 => ?_
            refine AWPD.seq fun K22 hK22 => ?_
            -- region 16
            refine AWPD.keep [1, 2, 3, 4, 10, 12, 14, 15, 16] rfl ?_
            refine AWPD.region tabOK rfl ?_
            repeat refine And.intro (by first | (intro hg; simp only [Bool.cond_true_left, Bool.cond_false_right, Bool.cond_true_right, Bool.cond_false_left, Bool.or_eq_true, Bool.and_eq_true, decide_eq_true_eq, Bool.or_eq_false_iff, Bool.and_eq_false_iff, decide_eq_false_iff_not, Bool.not_eq_true', Bool.not_eq_false', Bool.not_true, Bool.not_false] at hg; have h1 := hol hg; omega) | (intro hg; simp only [Bool.cond_true_left, Bool.cond_false_right, Bool.cond_true_right, Bool.cond_false_left, Bool.or_eq_true, Bool.and_eq_true, decide_eq_true_eq, Bool.or_eq_false_iff, Bool.and_eq_false_iff, decide_eq_false_iff_not, Bool.not_eq_true', Bool.not_eq_false', Bool.not_true, Bool.not_false] at hg; have h1 := hol hg.1; omega) | (intro hg; simp only [Bool.cond_true_left, Bool.cond_false_right, Bool.cond_true_right, Bool.cond_false_left, Bool.or_eq_true, Bool.and_eq_true, decide_eq_true_eq, Bool.or_eq_false_iff, Bool.and_eq_false_iff, decide_eq_false_iff_not, Bool.not_eq_true', Bool.not_eq_false', Bool.not_true, Bool.not_false] at hg; have h1 := hol2 hg; omega) | (intro hg; simp only [Bool.cond_true_left, Bool.cond_false_right, Bool.cond_true_right, Bool.cond_false_left, Bool.or_eq_true, Bool.and_eq_true, decide_eq_true_eq, Bool.or_eq_false_iff, Bool.and_eq_false_iff, decide_eq_false_iff_not, Bool.not_eq_true', Bool.not_eq_false', Bool.not_true, Bool.not_false] at hg; have h1 := hol2 hg.1; omega) | exact fun h => h | exact fun _ => rfl | (intro h; rw [h]; rfl) | omega | ((try dsimp only [Ty.T]); (try simp only [castL_self]); (try simp only [Int.toNat_natCast]); (try simp only [Int.toNat_zero]); (try simp only [true_and]); omega) | (intros; (try dsimp only [Ty.T]); (try simp only [castL_self]); (try simp only [Int.toNat_natCast]); (try simp only [Int.toNat_zero]); (try simp only [true_and]); omega) | ((try dsimp only [Ty.T, Ty.size]); (try simp only [castL_self, Int.toNat_natCast, Int.toNat_zero, true_and, List.length_append, List.length_set, List.length_cons, List.length_nil, Nat.zero_add, Nat.mul_one]); omega) | ((try dsimp only [Ty.T, Ty.size]); (try simp only [castL_self, Int.toNat_natCast, Int.toNat_zero, Int.toNat_one, true_and, List.length_append, List.length_set, List.length_drop, List.length_take, List.length_replicate, List.length_cons, List.length_nil, Nat.zero_add, Nat.mul_one]); omega) | decide | (intros; simp_all; done) | (intros; simp_all; omega)) ?_
            refine hK22 _ _ ?_
            clear hK22
            first | refine AWPD.condP rfl (fun h5 => ?_) (fun h5 => ?_) | refine AWPD.condN rfl (fun h5 => ?_) (fun h5 => ?_) | refine AWPD.condAP rfl (fun h5 => ?_) (fun h5 => ?_) | refine AWPD.condOP rfl (fun h5 => ?_) (fun h5 => ?_) | refine AWPD.condONN rfl (fun h5 => ?_) (fun h5 => ?_) | refine AWPD.condOPN rfl (fun h5 => ?_) (fun h5 => ?_) | refine AWPD.condA rfl (fun h5 => ?_) (fun h5 => ?_) | refine AWPD.condO rfl (fun h5 => ?_) (fun h5 => ?_) | refine AWPD.cond rfl (fun h5 => ?_) (fun h5 => ?_)
            · try dsimp only [Ty.T] at h5
              try simp only [castL_self] at h5
              try simp only [Int.toNat_natCast] at h5
              try simp only [Int.toNat_zero] at h5
              exfalso; exact h5 (views_off he hil h4)
            · try dsimp only [Ty.T] at h5
              try simp only [castL_self] at h5
              try simp only [Int.toNat_natCast] at h5
              try simp only [Int.toNat_zero] at h5
              refine AWPD.skip ?_
              refine hK21 _ _ ?_
              clear hK21
              refine AWPD.exit ?_
              refine hK18 _ _ ?_
              clear hK18
              -- region 14
              refine AWPD.keep [1, 2, 3, 4, 10, 12, 14, 15, 16] rfl ?_
              refine AWPD.region tabOK rfl ?_
              repeat refine And.intro (by first | (intro hg; simp only [Bool.cond_true_left, Bool.cond_false_right, Bool.cond_true_right, Bool.cond_false_left, Bool.or_eq_true, Bool.and_eq_true, decide_eq_true_eq, Bool.or_eq_false_iff, Bool.and_eq_false_iff, decide_eq_false_iff_not, Bool.not_eq_true', Bool.not_eq_false', Bool.not_true, Bool.not_false] at hg; have h1 := hol hg; omega) | (intro hg; simp only [Bool.cond_true_left, Bool.cond_false_right, Bool.cond_true_right, Bool.cond_false_left, Bool.or_eq_true, Bool.and_eq_true, decide_eq_true_eq, Bool.or_eq_false_iff, Bool.and_eq_false_iff, decide_eq_false_iff_not, Bool.not_eq_true', Bool.not_eq_false', Bool.not_true, Bool.not_false] at hg; have h1 := hol hg.1; omega) | (intro hg; simp only [Bool.cond_true_left, Bool.cond_false_right, Bool.cond_true_right, Bool.cond_false_left, Bool.or_eq_true, Bool.and_eq_true, decide_eq_true_eq, Bool.or_eq_false_iff, Bool.and_eq_false_iff, decide_eq_false_iff_not, Bool.not_eq_true', Bool.not_eq_false', Bool.not_true, Bool.not_false] at hg; have h1 := hol2 hg; omega) | (intro hg; simp only [Bool.cond_true_left, Bool.cond_false_right, Bool.cond_true_right, Bool.cond_false_left, Bool.or_eq_true, Bool.and_eq_true, decide_eq_true_eq, Bool.or_eq_false_iff, Bool.and_eq_false_iff, decide_eq_false_iff_not, Bool.not_eq_true', Bool.not_eq_false', Bool.not_true, Bool.not_false] at hg; have h1 := hol2 hg.1; omega) | exact fun h => h | exact fun _ => rfl | (intro h; rw [h]; rfl) | omega | ((try dsimp only [Ty.T]); (try simp only [castL_self]); (try simp only [Int.toNat_natCast]); (try simp only [Int.toNat_zero]); (try simp only [true_and]); omega) | (intros; (try dsimp only [Ty.T]); (try simp only [castL_self]); (try simp only [Int.toNat_natCast]); (try simp only [Int.toNat_zero]); (try simp only [true_and]); omega) | ((try dsimp only [Ty.T, Ty.size]); (try simp only [castL_self, Int.toNat_natCast, Int.toNat_zero, true_and, List.length_append, List.length_set, List.length_cons, List.length_nil, Nat.zero_add, Nat.mul_one]); omega) | ((try dsimp only [Ty.T, Ty.size]); (try simp only [castL_self, Int.toNat_natCast, Int.toNat_zero, Int.toNat_one, true_and, List.length_append, List.length_set, List.length_drop, List.length_take, List.length_replicate, List.length_cons, List.length_nil, Nat.zero_add, Nat.mul_one]); omega) | decide | (intros; simp_all; done) | (intros; simp_all; omega)) ?_
              refine ⟨n0 - 1, (s.1 + 1, s.2), [], by omega, ⟨by show n0 - 1 + (s.1 + 1) = N.length; omega, fun h => GA_skip (hga h) h4⟩, ⟨by decide, rfl⟩, trivial, ?_⟩
              repeat' first | exact True.intro | exact rfl | exact ⟨rfl, rfl⟩ | refine And.intro ?_ ?_
          · try dsimp only [Ty.T] at h4
            try simp only [castL_self] at h4
            try simp only [Int.toNat_natCast] at h4
            try simp only [Int.toNat_zero] at h4
            try simp only [Bool.cond_true_left, Bool.cond_false_right, Bool.cond_true_right, Bool.cond_false_left, Bool.or_eq_true, Bool.and_eq_true, decide_eq_true_eq, Bool.or_eq_false_iff, Bool.and_eq_false_iff, decide_eq_false_iff_not, Bool.not_eq_true', Bool.not_eq_false', Bool.not_eq_eq_eq_not, Bool.not_true, Bool.not_false] at h4
            refine AWPD.skip ?_
            refine hK19 _ _ ?_
            clear hK19
            refine AWPD.seq fun K23 hK23 => ?_
            -- region 18
            refine AWPD.keep [1, 2, 3, 4, 10, 12, 14, 15, 16] rfl ?_
            refine AWPD.region tabOK rfl ?_
            refine hK23 _ _ ?_
            clear hK23
            refine AWPD.block ?_
            -- LOOP 1 live [1, 2, 3, 4, 10, 12, 14, 15, 16, 17] changed [15, 17]
            refine AWPD.loopK (σ := Nat × Bool) [1, 2, 3, 4, 10, 12, 14, 16] (fun u base => (15, .b u.2) :: (17, .i (u.1 : Int)) :: base) (fun _ => []) (fun n u => n + u.1 = A.length ∧ (u.2 = true → GB A N f part other s.1 u.1)) A.length (0, s.2) [] rfl rfl (⟨by show A.length + 0 = A.length; omega, fun h => GB_zero (hga h)⟩) (by decide) trivial (by repeat' first | exact True.intro | exact rfl | exact ⟨rfl, rfl⟩ | refine And.intro ?_ ?_) fun n1 u hI1 => ?_
            obtain ⟨hn1, hgb⟩ := hI1
            refine AWPD.seq fun K24 hK24 => ?_
            refine AWPD.seq fun K25 hK25 => ?_
            -- region 19
            refine AWPD.keep [1, 2, 3, 4, 10, 12, 14, 15, 16, 17] rfl ?_
            refine AWPD.region tabOK rfl ?_
            repeat refine And.intro (by first | (intro hg; simp only [Bool.cond_true_left, Bool.cond_false_right, Bool.cond_true_right, Bool.cond_false_left, Bool.or_eq_true, Bool.and_eq_true, decide_eq_true_eq, Bool.or_eq_false_iff, Bool.and_eq_false_iff, decide_eq_false_iff_not, Bool.not_eq_true', Bool.not_eq_false', Bool.not_true, Bool.not_false] at hg; have h1 := hol hg; omega) | (intro hg; simp only [Bool.cond_true_left, Bool.cond_false_right, Bool.cond_true_right, Bool.cond_false_left, Bool.or_eq_true, Bool.and_eq_true, decide_eq_true_eq, Bool.or_eq_false_iff, Bool.and_eq_false_iff, decide_eq_false_iff_not, Bool.not_eq_true', Bool.not_eq_false', Bool.not_true, Bool.not_false] at hg; have h1 := hol hg.1; omega) | (intro hg; simp only [Bool.cond_true_left, Bool.cond_false_right, Bool.cond_true_right, Bool.cond_false_left, Bool.or_eq_true, Bool.and_eq_true, decide_eq_true_eq, Bool.or_eq_false_iff, Bool.and_eq_false_iff, decide_eq_false_iff_not, Bool.not_eq_true', Bool.not_eq_false', Bool.not_true, Bool.not_false] at hg; have h1 := hol2 hg; omega) | (intro hg; simp only [Bool.cond_true_left, Bool.cond_false_right, Bool.cond_true_right, Bool.cond_false_left, Bool.or_eq_true, Bool.and_eq_true, decide_eq_true_eq, Bool.or_eq_false_iff, Bool.and_eq_false_iff, decide_eq_false_iff_not, Bool.not_eq_true', Bool.not_eq_false', Bool.not_true, Bool.not_false] at hg; have h1 := hol2 hg.1; omega) | exact fun h => h | exact fun _ => rfl | (intro h; rw [h]; rfl) | omega | ((try dsimp only [Ty.T]); (try simp only [castL_self]); (try simp only [Int.toNat_natCast]); (try simp only [Int.toNat_zero]); (try simp only [true_and]); omega) | (intros; (try dsimp only [Ty.T]); (try simp only [castL_self]); (try simp only [Int.toNat_natCast]); (try simp only [Int.toNat_zero]); (try simp only [true_and]); omega) | ((try dsimp only [Ty.T, Ty.size]); (try simp only [castL_self, Int.toNat_natCast, Int.toNat_zero, true_and, List.length_append, List.length_set, List.length_cons, List.length_nil, Nat.zero_add, Nat.mul_one]); omega) | ((try dsimp only [Ty.T, Ty.size]); (try simp only [castL_self, Int.toNat_natCast, Int.toNat_zero, Int.toNat_one, true_and, List.length_append, List.length_set, List.length_drop, List.length_take, List.length_replicate, List.length_cons, List.length_nil, Nat.zero_add, Nat.mul_one]); omega) | decide | (intros; simp_all; done) | (intros; simp_all; omega)) ?_
            refine hK25 _ _ ?_
            clear hK25
            first | refine AWPD.condP rfl (fun h6 => ?_) (fun h6 => ?_) | refine AWPD.condN rfl (fun h6 => ?_) (fun h6 => ?_) | refine AWPD.condAP rfl (fun h6 => ?_) (fun h6 => ?_) | refine AWPD.condOP rfl (fun h6 => ?_) (fun h6 => ?_) | refine AWPD.condONN rfl (fun h6 => ?_) (fun h6 => ?_) | refine AWPD.condOPN rfl (fun h6 => ?_) (fun h6 => ?_) | refine AWPD.condA rfl (fun h6 => ?_) (fun h6 => ?_) | refine AWPD.condO rfl (fun h6 => ?_) (fun h6 => ?_) | refine AWPD.cond rfl (fun h6 => ?_) (fun h6 => ?_)
            · try dsimp only [Ty.T] at h6
              try simp only [castL_self] at h6
              try simp only [Int.toNat_natCast] at h6
              try simp only [Int.toNat_zero] at h6
              have hal : u.1 < A.length := by omega
              have hac := g.acts u.1 hal
              have hxr := g.nx_lt hil hal
              have hmf := mask_le (gf.mask (A.getD u.1 0).toNat (by omega)) hP.2
              have hrow := hrN _ hil
              have hol : u.2 = true → other.length = N.length := fun h => (hgb h).1.1
              refine AWPD.skip ?_
              refine hK24 _ _ ?_
              clear hK24
              refine AWPD.seq fun K26 hK26 => ?_
              refine AWPD.block ?_
              refine AWPD.seq fun K27 hK27 => ?_
              -- region 21
              refine AWPD.keep [1, 2, 3, 4, 10, 12, 14, 15, 16, 17] rfl ?_
              refine AWPD.region tabOK rfl ?_
              repeat refine And.intro (by first | (intro hg; simp only [Bool.cond_true_left, Bool.cond_false_right, Bool.cond_true_right, Bool.cond_false_left, Bool.or_eq_true, Bool.and_eq_true, decide_eq_true_eq, Bool.or_eq_false_iff, Bool.and_eq_false_iff, decide_eq_false_iff_not, Bool.not_eq_true', Bool.not_eq_false', Bool.not_true, Bool.not_false] at hg; have h1 := hol hg; omega) | (intro hg; simp only [Bool.cond_true_left, Bool.cond_false_right, Bool.cond_true_right, Bool.cond_false_left, Bool.or_eq_true, Bool.and_eq_true, decide_eq_true_eq, Bool.or_eq_false_iff, Bool.and_eq_false_iff, decide_eq_false_iff_not, Bool.not_eq_true', Bool.not_eq_false', Bool.not_true, Bool.not_false] at hg; have h1 := hol hg.1; omega) | (intro hg; simp only [Bool.cond_true_left, Bool.cond_false_right, Bool.cond_true_right, Bool.cond_false_left, Bool.or_eq_true, Bool.and_eq_true, decide_eq_true_eq, Bool.or_eq_false_iff, Bool.and_eq_false_iff, decide_eq_false_iff_not, Bool.not_eq_true', Bool.not_eq_false', Bool.not_true, Bool.not_false] at hg; have h1 := hol2 hg; omega) | (intro hg; simp only [Bool.cond_true_left, Bool.cond_false_right, Bool.cond_true_right, Bool.cond_false_left, Bool.or_eq_true, Bool.and_eq_true, decide_eq_true_eq, Bool.or_eq_false_iff, Bool.and_eq_false_iff, decide_eq_false_iff_not, Bool.not_eq_true', Bool.not_eq_false', Bool.not_true, Bool.not_false] at hg; have h1 := hol2 hg.1; omega) | exact fun h => h | exact fun _ => rfl | (intro h; rw [h]; rfl) | omega | ((try dsimp only [Ty.T]); (try simp only [castL_self]); (try simp only [Int.toNat_natCast]); (try simp only [Int.toNat_zero]); (try simp only [true_and]); omega) | (intros; (try dsimp only [Ty.T]); (try simp only [castL_self]); (try simp only [Int.toNat_natCast]); (try simp only [Int.toNat_zero]); (try simp only [true_and]); omega) | ((try dsimp only [Ty.T, Ty.size]); (try simp only [castL_self, Int.toNat_natCast, Int.toNat_zero, true_and, List.length_append, List.length_set, List.length_cons, List.length_nil, Nat.zero_add, Nat.mul_one]); omega) | ((try dsimp only [Ty.T, Ty.size]); (try simp only [castL_self, Int.toNat_natCast, Int.toNat_zero, Int.toNat_one, true_and, List.length_append, List.length_set, List.length_drop, List.length_take, List.length_replicate, List.length_cons, List.length_nil, Nat.zero_add, Nat.mul_one]); omega) | decide | (intros; simp_all; done) | (intros; simp_all; omega)) ?_
              refine hK27 _ _ ?_
              clear hK27
              refine AWPD.seq fun K28 hK28 => ?_
              -- region 22
              refine AWPD.keep [1, 2, 3, 4, 10, 12, 14, 15, 16, 17, 18] rfl ?_
              refine AWPD.region tabOK rfl ?_
              repeat refine And.intro (by first | (intro hg; simp only [Bool.cond_true_left, Bool.cond_false_right, Bool.cond_true_right, Bool.cond_false_left, Bool.or_eq_true, Bool.and_eq_true, decide_eq_true_eq, Bool.or_eq_false_iff, Bool.and_eq_false_iff, decide_eq_false_iff_not, Bool.not_eq_true', Bool.not_eq_false', Bool.not_true, Bool.not_false] at hg; have h1 := hol hg; omega) | (intro hg; simp only [Bool.cond_true_left, Bool.cond_false_right, Bool.cond_true_right, Bool.cond_false_left, Bool.or_eq_true, Bool.and_eq_true, decide_eq_true_eq, Bool.or_eq_false_iff, Bool.and_eq_false_iff, decide_eq_false_iff_not, Bool.not_eq_true', Bool.not_eq_false', Bool.not_true, Bool.not_false] at hg; have h1 := hol hg.1; omega) | (intro hg; simp only [Bool.cond_true_left, Bool.cond_false_right, Bool.cond_true_right, Bool.cond_false_left, Bool.or_eq_true, Bool.and_eq_true, decide_eq_true_eq, Bool.or_eq_false_iff, Bool.and_eq_false_iff, decide_eq_false_iff_not, Bool.not_eq_true', Bool.not_eq_false', Bool.not_true, Bool.not_false] at hg; have h1 := hol2 hg; omega) | (intro hg; simp only [Bool.cond_true_left, Bool.cond_false_right, Bool.cond_true_right, Bool.cond_false_left, Bool.or_eq_true, Bool.and_eq_true, decide_eq_true_eq, Bool.or_eq_false_iff, Bool.and_eq_false_iff, decide_eq_false_iff_not, Bool.not_eq_true', Bool.not_eq_false', Bool.not_true, Bool.not_false] at hg; have h1 := hol2 hg.1; omega) | exact fun h => h | exact fun _ => rfl | (intro h; rw [h]; rfl) | omega | ((try dsimp only [Ty.T]); (try simp only [castL_self]); (try simp only [Int.toNat_natCast]); (try simp only [Int.toNat_zero]); (try simp only [true_and]); omega) | (intros; (try dsimp only [Ty.T]); (try simp only [castL_self]); (try simp only [Int.toNat_natCast]); (try simp only [Int.toNat_zero]); (try simp only [true_and]); omega) | ((try dsimp only [Ty.T, Ty.size]); (try simp only [castL_self, Int.toNat_natCast, Int.toNat_zero, true_and, List.length_append, List.length_set, List.length_cons, List.length_nil, Nat.zero_add, Nat.mul_one]); omega) | ((try dsimp only [Ty.T, Ty.size]); (try simp only [castL_self, Int.toNat_natCast, Int.toNat_zero, Int.toNat_one, true_and, List.length_append, List.length_set, List.length_drop, List.length_take, List.length_replicate, List.length_cons, List.length_nil, Nat.zero_add, Nat.mul_one]); omega) | decide | (intros; simp_all; done) | (intros; simp_all; omega)) ?_
              refine Exists.intro _ (Exists.intro _ (And.intro (StepD.call (bit_fn (f.getD (A.getD u.1 0).toNat 0) part (by omega) (by omega)) rfl rfl rfl) (And.intro rfl (And.intro trivial ?_))))
              refine hK28 _ _ ?_
              clear hK28
              refine AWPD.seq fun K29 hK29 => ?_
              refine AWPD.seq fun K30 hK30 => ?_
              -- region 23
              refine AWPD.keep [1, 2, 3, 4, 10, 12, 14, 15, 16, 17, 18, 19] rfl ?_
              refine AWPD.draw tabOK [] rfl (by kernel_rfl) ?_
              repeat refine And.intro (by first | (intro hg; simp only [Bool.cond_true_left, Bool.cond_false_right, Bool.cond_true_right, Bool.cond_false_left, Bool.or_eq_true, Bool.and_eq_true, decide_eq_true_eq, Bool.or_eq_false_iff, Bool.and_eq_false_iff, decide_eq_false_iff_not, Bool.not_eq_true', Bool.not_eq_false', Bool.not_true, Bool.not_false] at hg; have h1 := hol hg; omega) | (intro hg; simp only [Bool.cond_true_left, Bool.cond_false_right, Bool.cond_true_right, Bool.cond_false_left, Bool.or_eq_true, Bool.and_eq_true, decide_eq_true_eq, Bool.or_eq_false_iff, Bool.and_eq_false_iff, decide_eq_false_iff_not, Bool.not_eq_true', Bool.not_eq_false', Bool.not_true, Bool.not_false] at hg; have h1 := hol hg.1; omega) | (intro hg; simp only [Bool.cond_true_left, Bool.cond_false_right, Bool.cond_true_right, Bool.cond_false_left, Bool.or_eq_true, Bool.and_eq_true, decide_eq_true_eq, Bool.or_eq_false_iff, Bool.and_eq_false_iff, decide_eq_false_iff_not, Bool.not_eq_true', Bool.not_eq_false', Bool.not_true, Bool.not_false] at hg; have h1 := hol2 hg; omega) | (intro hg; simp only [Bool.cond_true_left, Bool.cond_false_right, Bool.cond_true_right, Bool.cond_false_left, Bool.or_eq_true, Bool.and_eq_true, decide_eq_true_eq, Bool.or_eq_false_iff, Bool.and_eq_false_iff, decide_eq_false_iff_not, Bool.not_eq_true', Bool.not_eq_false', Bool.not_true, Bool.not_false] at hg; have h1 := hol2 hg.1; omega) | exact fun h => h | exact fun _ => rfl | (intro h; rw [h]; rfl) | omega | ((try dsimp only [Ty.T]); (try simp only [castL_self]); (try simp only [Int.toNat_natCast]); (try simp only [Int.toNat_zero]); (try simp only [true_and]); omega) | (intros; (try dsimp only [Ty.T]); (try simp only [castL_self]); (try simp only [Int.toNat_natCast]); (try simp only [Int.toNat_zero]); (try simp only [true_and]); omega) | ((try dsimp only [Ty.T, Ty.size]); (try simp only [castL_self, Int.toNat_natCast, Int.toNat_zero, true_and, List.length_append, List.length_set, List.length_cons, List.length_nil, Nat.zero_add, Nat.mul_one]); omega) | ((try dsimp only [Ty.T, Ty.size]); (try simp only [castL_self, Int.toNat_natCast, Int.toNat_zero, Int.toNat_one, true_and, List.length_append, List.length_set, List.length_drop, List.length_take, List.length_replicate, List.length_cons, List.length_nil, Nat.zero_add, Nat.mul_one]); omega) | decide | (intros; simp_all; done) | (intros; simp_all; omega)) ?_
              refine hK30 _ _ ?_
              clear hK30
              first | refine AWPD.cond rfl (fun h7 => ?_) (fun h7 => ?_)
              · try dsimp only [Ty.T] at h7
                try simp only [castL_self] at h7
                try simp only [Int.toNat_natCast] at h7
                try simp only [Int.toNat_zero] at h7
                exfalso; obtain ⟨hq1, hq2⟩ := andB h7; exact of_decide_eq_true hq2 (views_quiet g he h4 hal hq1)
              · try dsimp only [Ty.T] at h7
                try simp only [castL_self] at h7
                try simp only [Int.toNat_natCast] at h7
                try simp only [Int.toNat_zero] at h7
                refine AWPD.skip ?_
                refine hK29 _ _ ?_
                clear hK29
                refine AWPD.seq fun K31 hK31 => ?_
                -- region 25
                refine AWPD.keep [1, 2, 3, 4, 10, 12, 14, 15, 16, 17, 18, 19] rfl ?_
                refine AWPD.draw tabOK [] rfl (by kernel_rfl) ?_
                repeat refine And.intro (by first | (intro hg; simp only [Bool.cond_true_left, Bool.cond_false_right, Bool.cond_true_right, Bool.cond_false_left, Bool.or_eq_true, Bool.and_eq_true, decide_eq_true_eq, Bool.or_eq_false_iff, Bool.and_eq_false_iff, decide_eq_false_iff_not, Bool.not_eq_true', Bool.not_eq_false', Bool.not_true, Bool.not_false] at hg; have h1 := hol hg; omega) | (intro hg; simp only [Bool.cond_true_left, Bool.cond_false_right, Bool.cond_true_right, Bool.cond_false_left, Bool.or_eq_true, Bool.and_eq_true, decide_eq_true_eq, Bool.or_eq_false_iff, Bool.and_eq_false_iff, decide_eq_false_iff_not, Bool.not_eq_true', Bool.not_eq_false', Bool.not_true, Bool.not_false] at hg; have h1 := hol hg.1; omega) | (intro hg; simp only [Bool.cond_true_left, Bool.cond_false_right, Bool.cond_true_right, Bool.cond_false_left, Bool.or_eq_true, Bool.and_eq_true, decide_eq_true_eq, Bool.or_eq_false_iff, Bool.and_eq_false_iff, decide_eq_false_iff_not, Bool.not_eq_true', Bool.not_eq_false', Bool.not_true, Bool.not_false] at hg; have h1 := hol2 hg; omega) | (intro hg; simp only [Bool.cond_true_left, Bool.cond_false_right, Bool.cond_true_right, Bool.cond_false_left, Bool.or_eq_true, Bool.and_eq_true, decide_eq_true_eq, Bool.or_eq_false_iff, Bool.and_eq_false_iff, decide_eq_false_iff_not, Bool.not_eq_true', Bool.not_eq_false', Bool.not_true, Bool.not_false] at hg; have h1 := hol2 hg.1; omega) | exact fun h => h | exact fun _ => rfl | (intro h; rw [h]; rfl) | omega | ((try dsimp only [Ty.T]); (try simp only [castL_self]); (try simp only [Int.toNat_natCast]); (try simp only [Int.toNat_zero]); (try simp only [true_and]); omega) | (intros; (try dsimp only [Ty.T]); (try simp only [castL_self]); (try simp only [Int.toNat_natCast]); (try simp only [Int.toNat_zero]); (try simp only [true_and]); omega) | ((try dsimp only [Ty.T, Ty.size]); (try simp only [castL_self, Int.toNat_natCast, Int.toNat_zero, true_and, List.length_append, List.length_set, List.length_cons, List.length_nil, Nat.zero_add, Nat.mul_one]); omega) | ((try dsimp only [Ty.T, Ty.size]); (try simp only [castL_self, Int.toNat_natCast, Int.toNat_zero, Int.toNat_one, true_and, List.length_append, List.length_set, List.length_drop, List.length_take, List.length_replicate, List.length_cons, List.length_nil, Nat.zero_add, Nat.mul_one]); omega) | decide | (intros; simp_all; done) | (intros; simp_all; omega)) ?_
                refine hK31 _ _ ?_
                clear hK31
                refine AWPD.seq fun K32 hK32 => ?_
                -- region 26
                refine AWPD.keep [1, 2, 3, 4, 10, 12, 14, 15, 16, 17, 18] rfl ?_
                refine AWPD.region tabOK rfl ?_
                refine hK32 _ _ ?_
                clear hK32
                refine AWPD.block ?_
                -- LOOP 2 live [1, 2, 3, 4, 10, 12, 14, 15, 16, 17, 18, 20] changed [15, 20]
                refine AWPD.loopK (σ := Nat × Bool) [1, 2, 3, 4, 10, 12, 14, 16, 17, 18] (fun v base => (15, .b v.2) :: (20, .i (v.1 : Int)) :: base) (fun _ => []) (fun n v => n + v.1 = N.length ∧ (v.2 = true → GC A N f part other s.1 u.1 v.1)) N.length (0, bif u.2 then (bif !(qaF A f part u.1) then true else decide (other.getD (nx N s.1 u.1) 0 = other.getD s.1 0)) else false) [] rfl rfl (⟨by show N.length + 0 = N.length; omega, fun h => GC_zero hgb h⟩) (by decide) trivial (by repeat' first | exact True.intro | exact rfl | exact ⟨rfl, rfl⟩ | refine And.intro ?_ ?_) fun n2 v hI2 => ?_
                obtain ⟨hn2, hgc⟩ := hI2
                refine AWPD.seq fun K33 hK33 => ?_
                refine AWPD.seq fun K34 hK34 => ?_
                -- region 27
                refine AWPD.keep [1, 2, 3, 4, 10, 12, 14, 15, 16, 17, 18, 20] rfl ?_
                refine AWPD.region tabOK rfl ?_
                refine hK34 _ _ ?_
                clear hK34
                first | refine AWPD.condP rfl (fun h8 => ?_) (fun h8 => ?_) | refine AWPD.condN rfl (fun h8 => ?_) (fun h8 => ?_) | refine AWPD.condAP rfl (fun h8 => ?_) (fun h8 => ?_) | refine AWPD.condOP rfl (fun h8 => ?_) (fun h8 => ?_) | refine AWPD.condONN rfl (fun h8 => ?_) (fun h8 => ?_) | refine AWPD.condOPN rfl (fun h8 => ?_) (fun h8 => ?_) | refine AWPD.condA rfl (fun h8 => ?_) (fun h8 => ?_) | refine AWPD.condO rfl (fun h8 => ?_) (fun h8 => ?_) | refine AWPD.cond rfl (fun h8 => ?_) (fun h8 => ?_)
                · try dsimp only [Ty.T] at h8
                  try simp only [castL_self] at h8
                  try simp only [Int.toNat_natCast] at h8
                  try simp only [Int.toNat_zero] at h8
                  have htl : v.1 < N.length := by omega
                  have hol2 : v.2 = true → other.length = N.length := fun h => (hgc h).1.1.1
                  refine AWPD.skip ?_
                  refine hK33 _ _ ?_
                  clear hK33
                  refine AWPD.seq fun K35 hK35 => ?_
                  refine AWPD.block ?_
                  refine AWPD.seq fun K36 hK36 => ?_
                  refine AWPD.seq fun K37 hK37 => ?_
                  -- region 29
                  refine AWPD.keep [1, 2, 3, 4, 10, 12, 14, 15, 16, 17, 18, 20] rfl ?_
                  refine AWPD.region tabOK rfl ?_
                  refine Exists.intro _ (Exists.intro _ (And.intro (StepD.call (bit_fn ((reachN N : Nat) : Int) (v.1 : Int) (by omega) (by omega)) rfl rfl rfl) (And.intro rfl (And.intro trivial ?_))))
                  refine hK37 _ _ ?_
                  clear hK37
                  first | refine AWPD.cond rfl (fun h9 => ?_) (fun h9 => ?_)
                  · try dsimp only [Ty.T] at h9
                    try simp only [castL_self] at h9
                    try simp only [Int.toNat_natCast] at h9
                    try simp only [Int.toNat_zero] at h9
                    try simp only [Bool.cond_true_left, Bool.cond_false_right, Bool.cond_true_right, Bool.cond_false_left, Bool.or_eq_true, Bool.and_eq_true, decide_eq_true_eq, Bool.or_eq_false_iff, Bool.and_eq_false_iff, decide_eq_false_iff_not, Bool.not_eq_true', Bool.not_eq_false', Bool.not_eq_eq_eq_not, Bool.not_true, Bool.not_false] at h9
                    refine AWPD.exit ?_
                    refine hK35 _ _ ?_
                    clear hK35
                    -- region 28
                    refine AWPD.keep [1, 2, 3, 4, 10, 12, 14, 15, 16, 17, 18, 20] rfl ?_
                    refine AWPD.region tabOK rfl ?_
                    repeat refine And.intro (by first | (intro hg; simp only [Bool.cond_true_left, Bool.cond_false_right, Bool.cond_true_right, Bool.cond_false_left, Bool.or_eq_true, Bool.and_eq_true, decide_eq_true_eq, Bool.or_eq_false_iff, Bool.and_eq_false_iff, decide_eq_false_iff_not, Bool.not_eq_true', Bool.not_eq_false', Bool.not_true, Bool.not_false] at hg; have h1 := hol hg; omega) | (intro hg; simp only [Bool.cond_true_left, Bool.cond_false_right, Bool.cond_true_right, Bool.cond_false_left, Bool.or_eq_true, Bool.and_eq_true, decide_eq_true_eq, Bool.or_eq_false_iff, Bool.and_eq_false_iff, decide_eq_false_iff_not, Bool.not_eq_true', Bool.not_eq_false', Bool.not_true, Bool.not_false] at hg; have h1 := hol hg.1; omega) | (intro hg; simp only [Bool.cond_true_left, Bool.cond_false_right, Bool.cond_true_right, Bool.cond_false_left, Bool.or_eq_true, Bool.and_eq_true, decide_eq_true_eq, Bool.or_eq_false_iff, Bool.and_eq_false_iff, decide_eq_false_iff_not, Bool.not_eq_true', Bool.not_eq_false', Bool.not_true, Bool.not_false] at hg; have h1 := hol2 hg; omega) | (intro hg; simp only [Bool.cond_true_left, Bool.cond_false_right, Bool.cond_true_right, Bool.cond_false_left, Bool.or_eq_true, Bool.and_eq_true, decide_eq_true_eq, Bool.or_eq_false_iff, Bool.and_eq_false_iff, decide_eq_false_iff_not, Bool.not_eq_true', Bool.not_eq_false', Bool.not_true, Bool.not_false] at hg; have h1 := hol2 hg.1; omega) | exact fun h => h | exact fun _ => rfl | (intro h; rw [h]; rfl) | omega | ((try dsimp only [Ty.T]); (try simp only [castL_self]); (try simp only [Int.toNat_natCast]); (try simp only [Int.toNat_zero]); (try simp only [true_and]); omega) | (intros; (try dsimp only [Ty.T]); (try simp only [castL_self]); (try simp only [Int.toNat_natCast]); (try simp only [Int.toNat_zero]); (try simp only [true_and]); omega) | ((try dsimp only [Ty.T, Ty.size]); (try simp only [castL_self, Int.toNat_natCast, Int.toNat_zero, true_and, List.length_append, List.length_set, List.length_cons, List.length_nil, Nat.zero_add, Nat.mul_one]); omega) | ((try dsimp only [Ty.T, Ty.size]); (try simp only [castL_self, Int.toNat_natCast, Int.toNat_zero, Int.toNat_one, true_and, List.length_append, List.length_set, List.length_drop, List.length_take, List.length_replicate, List.length_cons, List.length_nil, Nat.zero_add, Nat.mul_one]); omega) | decide | (intros; simp_all; done) | (intros; simp_all; omega)) ?_
                    refine ⟨n2 - 1, (v.1 + 1, v.2), [], by omega, ⟨by show n2 - 1 + (v.1 + 1) = N.length; omega, fun h => GC_next (hgc h) fun hr => by rw [h9] at hr; cases hr⟩, ⟨by decide, rfl⟩, trivial, ?_⟩
                    repeat' first | exact True.intro | exact rfl | exact ⟨rfl, rfl⟩ | refine And.intro ?_ ?_
                  · try dsimp only [Ty.T] at h9
                    try simp only [castL_self] at h9
                    try simp only [Int.toNat_natCast] at h9
                    try simp only [Int.toNat_zero] at h9
                    try simp only [Bool.cond_true_left, Bool.cond_false_right, Bool.cond_true_right, Bool.cond_false_left, Bool.or_eq_true, Bool.and_eq_true, decide_eq_true_eq, Bool.or_eq_false_iff, Bool.and_eq_false_iff, decide_eq_false_iff_not, Bool.not_eq_true', Bool.not_eq_false', Bool.not_eq_eq_eq_not, Bool.not_true, Bool.not_false] at h9
                    have hyr := g.nx_lt htl hal
                    have hrowy := hrN _ htl
                    refine AWPD.skip ?_
                    refine hK36 _ _ ?_
                    clear hK36
                    refine AWPD.seq fun K38 hK38 => ?_
                    -- region 30
                    refine AWPD.keep [1, 2, 3, 4, 10, 12, 14, 15, 16, 17, 18, 20] rfl ?_
                    refine AWPD.region tabOK rfl ?_
                    repeat refine And.intro (by first | (intro hg; simp only [Bool.cond_true_left, Bool.cond_false_right, Bool.cond_true_right, Bool.cond_false_left, Bool.or_eq_true, Bool.and_eq_true, decide_eq_true_eq, Bool.or_eq_false_iff, Bool.and_eq_false_iff, decide_eq_false_iff_not, Bool.not_eq_true', Bool.not_eq_false', Bool.not_true, Bool.not_false] at hg; have h1 := hol hg; omega) | (intro hg; simp only [Bool.cond_true_left, Bool.cond_false_right, Bool.cond_true_right, Bool.cond_false_left, Bool.or_eq_true, Bool.and_eq_true, decide_eq_true_eq, Bool.or_eq_false_iff, Bool.and_eq_false_iff, decide_eq_false_iff_not, Bool.not_eq_true', Bool.not_eq_false', Bool.not_true, Bool.not_false] at hg; have h1 := hol hg.1; omega) | (intro hg; simp only [Bool.cond_true_left, Bool.cond_false_right, Bool.cond_true_right, Bool.cond_false_left, Bool.or_eq_true, Bool.and_eq_true, decide_eq_true_eq, Bool.or_eq_false_iff, Bool.and_eq_false_iff, decide_eq_false_iff_not, Bool.not_eq_true', Bool.not_eq_false', Bool.not_true, Bool.not_false] at hg; have h1 := hol2 hg; omega) | (intro hg; simp only [Bool.cond_true_left, Bool.cond_false_right, Bool.cond_true_right, Bool.cond_false_left, Bool.or_eq_true, Bool.and_eq_true, decide_eq_true_eq, Bool.or_eq_false_iff, Bool.and_eq_false_iff, decide_eq_false_iff_not, Bool.not_eq_true', Bool.not_eq_false', Bool.not_true, Bool.not_false] at hg; have h1 := hol2 hg.1; omega) | exact fun h => h | exact fun _ => rfl | (intro h; rw [h]; rfl) | omega | ((try dsimp only [Ty.T]); (try simp only [castL_self]); (try simp only [Int.toNat_natCast]); (try simp only [Int.toNat_zero]); (try simp only [true_and]); omega) | (intros; (try dsimp only [Ty.T]); (try simp only [castL_self]); (try simp only [Int.toNat_natCast]); (try simp only [Int.toNat_zero]); (try simp only [true_and]); omega) | ((try dsimp only [Ty.T, Ty.size]); (try simp only [castL_self, Int.toNat_natCast, Int.toNat_zero, true_and, List.length_append, List.length_set, List.length_cons, List.length_nil, Nat.zero_add, Nat.mul_one]); omega) | ((try dsimp only [Ty.T, Ty.size]); (try simp only [castL_self, Int.toNat_natCast, Int.toNat_zero, Int.toNat_one, true_and, List.length_append, List.length_set, List.length_drop, List.length_take, List.length_replicate, List.length_cons, List.length_nil, Nat.zero_add, Nat.mul_one]); omega) | decide | (intros; simp_all; done) | (intros; simp_all; omega)) ?_
                    refine hK38 _ _ ?_
                    clear hK38
                    refine AWPD.seq fun K39 hK39 => ?_
                    refine AWPD.seq fun K40 hK40 => ?_
                    -- region 31
                    refine AWPD.keep [1, 2, 3, 4, 10, 12, 14, 15, 16, 17, 18, 20, 21] rfl ?_
                    refine AWPD.draw tabOK [] rfl (by kernel_rfl) ?_
                    repeat refine And.intro (by first | (intro hg; simp only [Bool.cond_true_left, Bool.cond_false_right, Bool.cond_true_right, Bool.cond_false_left, Bool.or_eq_true, Bool.and_eq_true, decide_eq_true_eq, Bool.or_eq_false_iff, Bool.and_eq_false_iff, decide_eq_false_iff_not, Bool.not_eq_true', Bool.not_eq_false', Bool.not_true, Bool.not_false] at hg; have h1 := hol hg; omega) | (intro hg; simp only [Bool.cond_true_left, Bool.cond_false_right, Bool.cond_true_right, Bool.cond_false_left, Bool.or_eq_true, Bool.and_eq_true, decide_eq_true_eq, Bool.or_eq_false_iff, Bool.and_eq_false_iff, decide_eq_false_iff_not, Bool.not_eq_true', Bool.not_eq_false', Bool.not_true, Bool.not_false] at hg; have h1 := hol hg.1; omega) | (intro hg; simp only [Bool.cond_true_left, Bool.cond_false_right, Bool.cond_true_right, Bool.cond_false_left, Bool.or_eq_true, Bool.and_eq_true, decide_eq_true_eq, Bool.or_eq_false_iff, Bool.and_eq_false_iff, decide_eq_false_iff_not, Bool.not_eq_true', Bool.not_eq_false', Bool.not_true, Bool.not_false] at hg; have h1 := hol2 hg; omega) | (intro hg; simp only [Bool.cond_true_left, Bool.cond_false_right, Bool.cond_true_right, Bool.cond_false_left, Bool.or_eq_true, Bool.and_eq_true, decide_eq_true_eq, Bool.or_eq_false_iff, Bool.and_eq_false_iff, decide_eq_false_iff_not, Bool.not_eq_true', Bool.not_eq_false', Bool.not_true, Bool.not_false] at hg; have h1 := hol2 hg.1; omega) | exact fun h => h | exact fun _ => rfl | (intro h; rw [h]; rfl) | omega | ((try dsimp only [Ty.T]); (try simp only [castL_self]); (try simp only [Int.toNat_natCast]); (try simp only [Int.toNat_zero]); (try simp only [true_and]); omega) | (intros; (try dsimp only [Ty.T]); (try simp only [castL_self]); (try simp only [Int.toNat_natCast]); (try simp only [Int.toNat_zero]); (try simp only [true_and]); omega) | ((try dsimp only [Ty.T, Ty.size]); (try simp only [castL_self, Int.toNat_natCast, Int.toNat_zero, true_and, List.length_append, List.length_set, List.length_cons, List.length_nil, Nat.zero_add, Nat.mul_one]); omega) | ((try dsimp only [Ty.T, Ty.size]); (try simp only [castL_self, Int.toNat_natCast, Int.toNat_zero, Int.toNat_one, true_and, List.length_append, List.length_set, List.length_drop, List.length_take, List.length_replicate, List.length_cons, List.length_nil, Nat.zero_add, Nat.mul_one]); omega) | decide | (intros; simp_all; done) | (intros; simp_all; omega)) ?_
                    refine hK40 _ _ ?_
                    clear hK40
                    first | refine AWPD.cond rfl (fun h10 => ?_) (fun h10 => ?_)
                    · try dsimp only [Ty.T] at h10
                      try simp only [castL_self] at h10
                      try simp only [Int.toNat_natCast] at h10
                      try simp only [Int.toNat_zero] at h10
                      exfalso; obtain ⟨hq1, hq2⟩ := andB h10; exact of_decide_eq_true hq2 (views_both g he h4 h9 hal (of_decide_eq_true hq1))
                    · try dsimp only [Ty.T] at h10
                      try simp only [castL_self] at h10
                      try simp only [Int.toNat_natCast] at h10
                      try simp only [Int.toNat_zero] at h10
                      refine AWPD.skip ?_
                      refine hK39 _ _ ?_
                      clear hK39
                      -- region 33
                      refine AWPD.keep [1, 2, 3, 4, 10, 12, 14, 15, 16, 17, 18, 20, 21] rfl ?_
                      refine AWPD.draw tabOK [] rfl (by kernel_rfl) ?_
                      repeat refine And.intro (by first | (intro hg; simp only [Bool.cond_true_left, Bool.cond_false_right, Bool.cond_true_right, Bool.cond_false_left, Bool.or_eq_true, Bool.and_eq_true, decide_eq_true_eq, Bool.or_eq_false_iff, Bool.and_eq_false_iff, decide_eq_false_iff_not, Bool.not_eq_true', Bool.not_eq_false', Bool.not_true, Bool.not_false] at hg; have h1 := hol hg; omega) | (intro hg; simp only [Bool.cond_true_left, Bool.cond_false_right, Bool.cond_true_right, Bool.cond_false_left, Bool.or_eq_true, Bool.and_eq_true, decide_eq_true_eq, Bool.or_eq_false_iff, Bool.and_eq_false_iff, decide_eq_false_iff_not, Bool.not_eq_true', Bool.not_eq_false', Bool.not_true, Bool.not_false] at hg; have h1 := hol hg.1; omega) | (intro hg; simp only [Bool.cond_true_left, Bool.cond_false_right, Bool.cond_true_right, Bool.cond_false_left, Bool.or_eq_true, Bool.and_eq_true, decide_eq_true_eq, Bool.or_eq_false_iff, Bool.and_eq_false_iff, decide_eq_false_iff_not, Bool.not_eq_true', Bool.not_eq_false', Bool.not_true, Bool.not_false] at hg; have h1 := hol2 hg; omega) | (intro hg; simp only [Bool.cond_true_left, Bool.cond_false_right, Bool.cond_true_right, Bool.cond_false_left, Bool.or_eq_true, Bool.and_eq_true, decide_eq_true_eq, Bool.or_eq_false_iff, Bool.and_eq_false_iff, decide_eq_false_iff_not, Bool.not_eq_true', Bool.not_eq_false', Bool.not_true, Bool.not_false] at hg; have h1 := hol2 hg.1; omega) | exact fun h => h | exact fun _ => rfl | (intro h; rw [h]; rfl) | omega | ((try dsimp only [Ty.T]); (try simp only [castL_self]); (try simp only [Int.toNat_natCast]); (try simp only [Int.toNat_zero]); (try simp only [true_and]); omega) | (intros; (try dsimp only [Ty.T]); (try simp only [castL_self]); (try simp only [Int.toNat_natCast]); (try simp only [Int.toNat_zero]); (try simp only [true_and]); omega) | ((try dsimp only [Ty.T, Ty.size]); (try simp only [castL_self, Int.toNat_natCast, Int.toNat_zero, true_and, List.length_append, List.length_set, List.length_cons, List.length_nil, Nat.zero_add, Nat.mul_one]); omega) | ((try dsimp only [Ty.T, Ty.size]); (try simp only [castL_self, Int.toNat_natCast, Int.toNat_zero, Int.toNat_one, true_and, List.length_append, List.length_set, List.length_drop, List.length_take, List.length_replicate, List.length_cons, List.length_nil, Nat.zero_add, Nat.mul_one]); omega) | decide | (intros; simp_all; done) | (intros; simp_all; omega)) ?_
                      refine hK35 _ _ ?_
                      clear hK35
                      -- region 28
                      refine AWPD.keep [1, 2, 3, 4, 10, 12, 14, 15, 16, 17, 18, 20] rfl ?_
                      refine AWPD.region tabOK rfl ?_
                      repeat refine And.intro (by first | (intro hg; simp only [Bool.cond_true_left, Bool.cond_false_right, Bool.cond_true_right, Bool.cond_false_left, Bool.or_eq_true, Bool.and_eq_true, decide_eq_true_eq, Bool.or_eq_false_iff, Bool.and_eq_false_iff, decide_eq_false_iff_not, Bool.not_eq_true', Bool.not_eq_false', Bool.not_true, Bool.not_false] at hg; have h1 := hol hg; omega) | (intro hg; simp only [Bool.cond_true_left, Bool.cond_false_right, Bool.cond_true_right, Bool.cond_false_left, Bool.or_eq_true, Bool.and_eq_true, decide_eq_true_eq, Bool.or_eq_false_iff, Bool.and_eq_false_iff, decide_eq_false_iff_not, Bool.not_eq_true', Bool.not_eq_false', Bool.not_true, Bool.not_false] at hg; have h1 := hol hg.1; omega) | (intro hg; simp only [Bool.cond_true_left, Bool.cond_false_right, Bool.cond_true_right, Bool.cond_false_left, Bool.or_eq_true, Bool.and_eq_true, decide_eq_true_eq, Bool.or_eq_false_iff, Bool.and_eq_false_iff, decide_eq_false_iff_not, Bool.not_eq_true', Bool.not_eq_false', Bool.not_true, Bool.not_false] at hg; have h1 := hol2 hg; omega) | (intro hg; simp only [Bool.cond_true_left, Bool.cond_false_right, Bool.cond_true_right, Bool.cond_false_left, Bool.or_eq_true, Bool.and_eq_true, decide_eq_true_eq, Bool.or_eq_false_iff, Bool.and_eq_false_iff, decide_eq_false_iff_not, Bool.not_eq_true', Bool.not_eq_false', Bool.not_true, Bool.not_false] at hg; have h1 := hol2 hg.1; omega) | exact fun h => h | exact fun _ => rfl | (intro h; rw [h]; rfl) | omega | ((try dsimp only [Ty.T]); (try simp only [castL_self]); (try simp only [Int.toNat_natCast]); (try simp only [Int.toNat_zero]); (try simp only [true_and]); omega) | (intros; (try dsimp only [Ty.T]); (try simp only [castL_self]); (try simp only [Int.toNat_natCast]); (try simp only [Int.toNat_zero]); (try simp only [true_and]); omega) | ((try dsimp only [Ty.T, Ty.size]); (try simp only [castL_self, Int.toNat_natCast, Int.toNat_zero, true_and, List.length_append, List.length_set, List.length_cons, List.length_nil, Nat.zero_add, Nat.mul_one]); omega) | ((try dsimp only [Ty.T, Ty.size]); (try simp only [castL_self, Int.toNat_natCast, Int.toNat_zero, Int.toNat_one, true_and, List.length_append, List.length_set, List.length_drop, List.length_take, List.length_replicate, List.length_cons, List.length_nil, Nat.zero_add, Nat.mul_one]); omega) | decide | (intros; simp_all; done) | (intros; simp_all; omega)) ?_
                      refine ⟨n2 - 1, (v.1 + 1, bif v.2 then (bif decide (other.getD s.1 0 ≠ other.getD v.1 0) then true else decide (other.getD (nx N s.1 u.1) 0 = other.getD (nx N v.1 u.1) 0)) else false), [], by omega, ⟨by show n2 - 1 + (v.1 + 1) = N.length; omega, fun h => GC_step hgc h⟩, ⟨by decide, rfl⟩, trivial, ?_⟩
                      repeat' first | exact True.intro | exact rfl | exact ⟨rfl, rfl⟩ | refine And.intro ?_ ?_
                · try dsimp only [Ty.T] at h8
                  try simp only [castL_self] at h8
                  try simp only [Int.toNat_natCast] at h8
                  try simp only [Int.toNat_zero] at h8
                  have htl : v.1 = N.length := by omega
                  have hgbN : v.2 = true → GB A N f part other s.1 (u.1 + 1) := fun h => GB_next (by rw [← htl]; exact hgc h)
                  refine AWPD.exit ?_
                  refine hK26 _ _ ?_
                  clear hK26
                  -- region 20
                  refine AWPD.keep [1, 2, 3, 4, 10, 12, 14, 15, 16, 17] rfl ?_
                  refine AWPD.region tabOK rfl ?_
                  repeat refine And.intro (by first | (intro hg; simp only [Bool.cond_true_left, Bool.cond_false_right, Bool.cond_true_right, Bool.cond_false_left, Bool.or_eq_true, Bool.and_eq_true, decide_eq_true_eq, Bool.or_eq_false_iff, Bool.and_eq_false_iff, decide_eq_false_iff_not, Bool.not_eq_true', Bool.not_eq_false', Bool.not_true, Bool.not_false] at hg; have h1 := hol hg; omega) | (intro hg; simp only [Bool.cond_true_left, Bool.cond_false_right, Bool.cond_true_right, Bool.cond_false_left, Bool.or_eq_true, Bool.and_eq_true, decide_eq_true_eq, Bool.or_eq_false_iff, Bool.and_eq_false_iff, decide_eq_false_iff_not, Bool.not_eq_true', Bool.not_eq_false', Bool.not_true, Bool.not_false] at hg; have h1 := hol hg.1; omega) | (intro hg; simp only [Bool.cond_true_left, Bool.cond_false_right, Bool.cond_true_right, Bool.cond_false_left, Bool.or_eq_true, Bool.and_eq_true, decide_eq_true_eq, Bool.or_eq_false_iff, Bool.and_eq_false_iff, decide_eq_false_iff_not, Bool.not_eq_true', Bool.not_eq_false', Bool.not_true, Bool.not_false] at hg; have h1 := hol2 hg; omega) | (intro hg; simp only [Bool.cond_true_left, Bool.cond_false_right, Bool.cond_true_right, Bool.cond_false_left, Bool.or_eq_true, Bool.and_eq_true, decide_eq_true_eq, Bool.or_eq_false_iff, Bool.and_eq_false_iff, decide_eq_false_iff_not, Bool.not_eq_true', Bool.not_eq_false', Bool.not_true, Bool.not_false] at hg; have h1 := hol2 hg.1; omega) | exact fun h => h | exact fun _ => rfl | (intro h; rw [h]; rfl) | omega | ((try dsimp only [Ty.T]); (try simp only [castL_self]); (try simp only [Int.toNat_natCast]); (try simp only [Int.toNat_zero]); (try simp only [true_and]); omega) | (intros; (try dsimp only [Ty.T]); (try simp only [castL_self]); (try simp only [Int.toNat_natCast]); (try simp only [Int.toNat_zero]); (try simp only [true_and]); omega) | ((try dsimp only [Ty.T, Ty.size]); (try simp only [castL_self, Int.toNat_natCast, Int.toNat_zero, true_and, List.length_append, List.length_set, List.length_cons, List.length_nil, Nat.zero_add, Nat.mul_one]); omega) | ((try dsimp only [Ty.T, Ty.size]); (try simp only [castL_self, Int.toNat_natCast, Int.toNat_zero, Int.toNat_one, true_and, List.length_append, List.length_set, List.length_drop, List.length_take, List.length_replicate, List.length_cons, List.length_nil, Nat.zero_add, Nat.mul_one]); omega) | decide | (intros; simp_all; done) | (intros; simp_all; omega)) ?_
                  refine ⟨n1 - 1, (u.1 + 1, v.2), [], by omega, ⟨by show n1 - 1 + (u.1 + 1) = A.length; omega, hgbN⟩, ⟨by decide, rfl⟩, trivial, ?_⟩
                  repeat' first | exact True.intro | exact rfl | exact ⟨rfl, rfl⟩ | refine And.intro ?_ ?_
            · try dsimp only [Ty.T] at h6
              try simp only [castL_self] at h6
              try simp only [Int.toNat_natCast] at h6
              try simp only [Int.toNat_zero] at h6
              have hal : u.1 = A.length := by omega
              refine AWPD.exit ?_
              refine hK18 _ _ ?_
              clear hK18
              -- region 14
              refine AWPD.keep [1, 2, 3, 4, 10, 12, 14, 15, 16] rfl ?_
              refine AWPD.region tabOK rfl ?_
              repeat refine And.intro (by first | (intro hg; simp only [Bool.cond_true_left, Bool.cond_false_right, Bool.cond_true_right, Bool.cond_false_left, Bool.or_eq_true, Bool.and_eq_true, decide_eq_true_eq, Bool.or_eq_false_iff, Bool.and_eq_false_iff, decide_eq_false_iff_not, Bool.not_eq_true', Bool.not_eq_false', Bool.not_true, Bool.not_false] at hg; have h1 := hol hg; omega) | (intro hg; simp only [Bool.cond_true_left, Bool.cond_false_right, Bool.cond_true_right, Bool.cond_false_left, Bool.or_eq_true, Bool.and_eq_true, decide_eq_true_eq, Bool.or_eq_false_iff, Bool.and_eq_false_iff, decide_eq_false_iff_not, Bool.not_eq_true', Bool.not_eq_false', Bool.not_true, Bool.not_false] at hg; have h1 := hol hg.1; omega) | (intro hg; simp only [Bool.cond_true_left, Bool.cond_false_right, Bool.cond_true_right, Bool.cond_false_left, Bool.or_eq_true, Bool.and_eq_true, decide_eq_true_eq, Bool.or_eq_false_iff, Bool.and_eq_false_iff, decide_eq_false_iff_not, Bool.not_eq_true', Bool.not_eq_false', Bool.not_true, Bool.not_false] at hg; have h1 := hol2 hg; omega) | (intro hg; simp only [Bool.cond_true_left, Bool.cond_false_right, Bool.cond_true_right, Bool.cond_false_left, Bool.or_eq_true, Bool.and_eq_true, decide_eq_true_eq, Bool.or_eq_false_iff, Bool.and_eq_false_iff, decide_eq_false_iff_not, Bool.not_eq_true', Bool.not_eq_false', Bool.not_true, Bool.not_false] at hg; have h1 := hol2 hg.1; omega) | exact fun h => h | exact fun _ => rfl | (intro h; rw [h]; rfl) | omega | ((try dsimp only [Ty.T]); (try simp only [castL_self]); (try simp only [Int.toNat_natCast]); (try simp only [Int.toNat_zero]); (try simp only [true_and]); omega) | (intros; (try dsimp only [Ty.T]); (try simp only [castL_self]); (try simp only [Int.toNat_natCast]); (try simp only [Int.toNat_zero]); (try simp only [true_and]); omega) | ((try dsimp only [Ty.T, Ty.size]); (try simp only [castL_self, Int.toNat_natCast, Int.toNat_zero, true_and, List.length_append, List.length_set, List.length_cons, List.length_nil, Nat.zero_add, Nat.mul_one]); omega) | ((try dsimp only [Ty.T, Ty.size]); (try simp only [castL_self, Int.toNat_natCast, Int.toNat_zero, Int.toNat_one, true_and, List.length_append, List.length_set, List.length_drop, List.length_take, List.length_replicate, List.length_cons, List.length_nil, Nat.zero_add, Nat.mul_one]); omega) | decide | (intros; simp_all; done) | (intros; simp_all; omega)) ?_
              refine ⟨n0 - 1, (s.1 + 1, u.2), [], by omega, ⟨by show n0 - 1 + (s.1 + 1) = N.length; omega, fun h => GA_next (by rw [← hal]; exact hgb h)⟩, ⟨by decide, rfl⟩, trivial, ?_⟩
              repeat' first | exact True.intro | exact rfl | exact ⟨rfl, rfl⟩ | refine And.intro ?_ ?_
        · try dsimp only [Ty.T] at h3
          try simp only [castL_self] at h3
          try simp only [Int.toNat_natCast] at h3
          try simp only [Int.toNat_zero] at h3
          have hil : s.1 = N.length := by omega
          have hgaN : s.2 = true → GA A N f part other N.length := fun h => by rw [← hil]; exact hga h
          refine AWPD.exit ?_
          refine hK14 _ _ ?_
          clear hK14
          refine AWPD.seq fun K41 hK41 => ?_
          refine AWPD.seq fun K42 hK42 => ?_
          -- region 34
          refine AWPD.keep [3, 10, 12, 14, 15] rfl ?_
          refine AWPD.region tabOK rfl ?_
          refine hK42 _ _ ?_
          clear hK42
          refine AWPD.block ?_
          -- LOOP 3 live [3, 10, 12, 14, 15, 22] changed [22]
          refine AWPD.loopK (σ := Nat) [3, 10, 12, 14, 15] (fun i base => (22, .i (i : Int)) :: base) (fun _ => []) (fun n i => n + i = N.length) (N.length) 0 [] rfl rfl (by omega) (by decide) trivial (by repeat' first | exact True.intro | exact rfl | exact ⟨rfl, rfl⟩ | refine And.intro ?_ ?_) fun n3 i hI3 => ?_
          have hn3 := hI3
          refine AWPD.seq fun K43 hK43 => ?_
          refine AWPD.seq fun K44 hK44 => ?_
          -- region 35
          refine AWPD.keep [3, 10, 12, 14, 15, 22] rfl ?_
          refine AWPD.region tabOK rfl ?_
          repeat refine And.intro (by first | (intro hg; simp only [Bool.cond_true_left, Bool.cond_false_right, Bool.cond_true_right, Bool.cond_false_left, Bool.or_eq_true, Bool.and_eq_true, decide_eq_true_eq, Bool.or_eq_false_iff, Bool.and_eq_false_iff, decide_eq_false_iff_not, Bool.not_eq_true', Bool.not_eq_false', Bool.not_true, Bool.not_false] at hg; have h1 := hol hg; omega) | (intro hg; simp only [Bool.cond_true_left, Bool.cond_false_right, Bool.cond_true_right, Bool.cond_false_left, Bool.or_eq_true, Bool.and_eq_true, decide_eq_true_eq, Bool.or_eq_false_iff, Bool.and_eq_false_iff, decide_eq_false_iff_not, Bool.not_eq_true', Bool.not_eq_false', Bool.not_true, Bool.not_false] at hg; have h1 := hol hg.1; omega) | (intro hg; simp only [Bool.cond_true_left, Bool.cond_false_right, Bool.cond_true_right, Bool.cond_false_left, Bool.or_eq_true, Bool.and_eq_true, decide_eq_true_eq, Bool.or_eq_false_iff, Bool.and_eq_false_iff, decide_eq_false_iff_not, Bool.not_eq_true', Bool.not_eq_false', Bool.not_true, Bool.not_false] at hg; have h1 := hol2 hg; omega) | (intro hg; simp only [Bool.cond_true_left, Bool.cond_false_right, Bool.cond_true_right, Bool.cond_false_left, Bool.or_eq_true, Bool.and_eq_true, decide_eq_true_eq, Bool.or_eq_false_iff, Bool.and_eq_false_iff, decide_eq_false_iff_not, Bool.not_eq_true', Bool.not_eq_false', Bool.not_true, Bool.not_false] at hg; have h1 := hol2 hg.1; omega) | exact fun h => h | exact fun _ => rfl | (intro h; rw [h]; rfl) | omega | ((try dsimp only [Ty.T]); (try simp only [castL_self]); (try simp only [Int.toNat_natCast]); (try simp only [Int.toNat_zero]); (try simp only [true_and]); omega) | (intros; (try dsimp only [Ty.T]); (try simp only [castL_self]); (try simp only [Int.toNat_natCast]); (try simp only [Int.toNat_zero]); (try simp only [true_and]); omega) | ((try dsimp only [Ty.T, Ty.size]); (try simp only [castL_self, Int.toNat_natCast, Int.toNat_zero, true_and, List.length_append, List.length_set, List.length_cons, List.length_nil, Nat.zero_add, Nat.mul_one]); omega) | ((try dsimp only [Ty.T, Ty.size]); (try simp only [castL_self, Int.toNat_natCast, Int.toNat_zero, Int.toNat_one, true_and, List.length_append, List.length_set, List.length_drop, List.length_take, List.length_replicate, List.length_cons, List.length_nil, Nat.zero_add, Nat.mul_one]); omega) | decide | (intros; simp_all; done) | (intros; simp_all; omega)) ?_
          refine hK44 _ _ ?_
          clear hK44
          first | refine AWPD.cond rfl (fun h11 => ?_) (fun h11 => ?_)
          · try dsimp only [Ty.T] at h11
            try simp only [castL_self] at h11
            try simp only [Int.toNat_natCast] at h11
            try simp only [Int.toNat_zero] at h11
            try simp only [Bool.cond_true_left, Bool.cond_false_right, Bool.cond_true_right, Bool.cond_false_left, Bool.or_eq_true, Bool.and_eq_true, decide_eq_true_eq, Bool.or_eq_false_iff, Bool.and_eq_false_iff, decide_eq_false_iff_not, Bool.not_eq_true', Bool.not_eq_false', Bool.not_eq_eq_eq_not, Bool.not_true, Bool.not_false] at h11
            have hlen := (hgaN h11.2).1
            refine AWPD.skip ?_
            refine hK43 _ _ ?_
            clear hK43
            refine AWPD.seq fun K45 hK45 => ?_
            refine AWPD.block ?_
            refine AWPD.seq fun K46 hK46 => ?_
            -- region 37
            refine AWPD.keep [3, 10, 12, 14, 15, 22] rfl ?_
            refine AWPD.region tabOK rfl ?_
            refine hK46 _ _ ?_
            clear hK46
            refine AWPD.block ?_
            -- LOOP 4 live [3, 10, 12, 14, 15, 22, 23] changed [23]
            refine AWPD.loopK (σ := Nat) [3, 10, 12, 14, 15, 22] (fun j base => (23, .i (j : Int)) :: base) (fun _ => []) (fun n j => n + j = i) (i) 0 [] rfl rfl (by omega) (by decide) trivial (by repeat' first | exact True.intro | exact rfl | exact ⟨rfl, rfl⟩ | refine And.intro ?_ ?_) fun n4 j hI4 => ?_
            have hn4 := hI4
            refine AWPD.seq fun K47 hK47 => ?_
            refine AWPD.seq fun K48 hK48 => ?_
            -- region 38
            refine AWPD.keep [3, 10, 12, 14, 15, 22, 23] rfl ?_
            refine AWPD.region tabOK rfl ?_
            refine hK48 _ _ ?_
            clear hK48
            first | refine AWPD.condP rfl (fun h12 => ?_) (fun h12 => ?_) | refine AWPD.condN rfl (fun h12 => ?_) (fun h12 => ?_) | refine AWPD.condAP rfl (fun h12 => ?_) (fun h12 => ?_) | refine AWPD.condOP rfl (fun h12 => ?_) (fun h12 => ?_) | refine AWPD.condONN rfl (fun h12 => ?_) (fun h12 => ?_) | refine AWPD.condOPN rfl (fun h12 => ?_) (fun h12 => ?_) | refine AWPD.condA rfl (fun h12 => ?_) (fun h12 => ?_) | refine AWPD.condO rfl (fun h12 => ?_) (fun h12 => ?_) | refine AWPD.cond rfl (fun h12 => ?_) (fun h12 => ?_)
            · try dsimp only [Ty.T] at h12
              try simp only [castL_self] at h12
              try simp only [Int.toNat_natCast] at h12
              try simp only [Int.toNat_zero] at h12
              refine AWPD.skip ?_
              refine hK47 _ _ ?_
              clear hK47
              refine AWPD.seq fun K49 hK49 => ?_
              refine AWPD.block ?_
              refine AWPD.seq fun K50 hK50 => ?_
              -- region 40
              refine AWPD.keep [3, 10, 12, 14, 15, 22, 23] rfl ?_
              refine AWPD.draw tabOK [] rfl (by kernel_rfl) ?_
              refine Exists.intro _ (Exists.intro _ (And.intro (StepD.call (bit_fn ((reachN N : Nat) : Int) (i : Int) (by omega) (by omega)) rfl rfl rfl) (And.intro rfl (And.intro rfl ?_))))
              repeat refine And.intro (by first | (intro hg; simp only [Bool.cond_true_left, Bool.cond_false_right, Bool.cond_true_right, Bool.cond_false_left, Bool.or_eq_true, Bool.and_eq_true, decide_eq_true_eq, Bool.or_eq_false_iff, Bool.and_eq_false_iff, decide_eq_false_iff_not, Bool.not_eq_true', Bool.not_eq_false', Bool.not_true, Bool.not_false] at hg; have h1 := hol hg; omega) | (intro hg; simp only [Bool.cond_true_left, Bool.cond_false_right, Bool.cond_true_right, Bool.cond_false_left, Bool.or_eq_true, Bool.and_eq_true, decide_eq_true_eq, Bool.or_eq_false_iff, Bool.and_eq_false_iff, decide_eq_false_iff_not, Bool.not_eq_true', Bool.not_eq_false', Bool.not_true, Bool.not_false] at hg; have h1 := hol hg.1; omega) | (intro hg; simp only [Bool.cond_true_left, Bool.cond_false_right, Bool.cond_true_right, Bool.cond_false_left, Bool.or_eq_true, Bool.and_eq_true, decide_eq_true_eq, Bool.or_eq_false_iff, Bool.and_eq_false_iff, decide_eq_false_iff_not, Bool.not_eq_true', Bool.not_eq_false', Bool.not_true, Bool.not_false] at hg; have h1 := hol2 hg; omega) | (intro hg; simp only [Bool.cond_true_left, Bool.cond_false_right, Bool.cond_true_right, Bool.cond_false_left, Bool.or_eq_true, Bool.and_eq_true, decide_eq_true_eq, Bool.or_eq_false_iff, Bool.and_eq_false_iff, decide_eq_false_iff_not, Bool.not_eq_true', Bool.not_eq_false', Bool.not_true, Bool.not_false] at hg; have h1 := hol2 hg.1; omega) | exact fun h => h | exact fun _ => rfl | (intro h; rw [h]; rfl) | omega | ((try dsimp only [Ty.T]); (try simp only [castL_self]); (try simp only [Int.toNat_natCast]); (try simp only [Int.toNat_zero]); (try simp only [true_and]); omega) | (intros; (try dsimp only [Ty.T]); (try simp only [castL_self]); (try simp only [Int.toNat_natCast]); (try simp only [Int.toNat_zero]); (try simp only [true_and]); omega) | ((try dsimp only [Ty.T, Ty.size]); (try simp only [castL_self, Int.toNat_natCast, Int.toNat_zero, true_and, List.length_append, List.length_set, List.length_cons, List.length_nil, Nat.zero_add, Nat.mul_one]); omega) | ((try dsimp only [Ty.T, Ty.size]); (try simp only [castL_self, Int.toNat_natCast, Int.toNat_zero, Int.toNat_one, true_and, List.length_append, List.length_set, List.length_drop, List.length_take, List.length_replicate, List.length_cons, List.length_nil, Nat.zero_add, Nat.mul_one]); omega) | decide | (intros; simp_all; done) | (intros; simp_all; omega)) ?_
              refine Exists.intro _ (And.intro (fun hg => StepD.call (bit_fn ((reachN N : Nat) : Int) (j : Int) (by omega) (by omega)) rfl rfl rfl) (And.intro rfl ?_))
              repeat refine And.intro (by first | (intro hg; simp only [Bool.cond_true_left, Bool.cond_false_right, Bool.cond_true_right, Bool.cond_false_left, Bool.or_eq_true, Bool.and_eq_true, decide_eq_true_eq, Bool.or_eq_false_iff, Bool.and_eq_false_iff, decide_eq_false_iff_not, Bool.not_eq_true', Bool.not_eq_false', Bool.not_true, Bool.not_false] at hg; have h1 := hol hg; omega) | (intro hg; simp only [Bool.cond_true_left, Bool.cond_false_right, Bool.cond_true_right, Bool.cond_false_left, Bool.or_eq_true, Bool.and_eq_true, decide_eq_true_eq, Bool.or_eq_false_iff, Bool.and_eq_false_iff, decide_eq_false_iff_not, Bool.not_eq_true', Bool.not_eq_false', Bool.not_true, Bool.not_false] at hg; have h1 := hol hg.1; omega) | (intro hg; simp only [Bool.cond_true_left, Bool.cond_false_right, Bool.cond_true_right, Bool.cond_false_left, Bool.or_eq_true, Bool.and_eq_true, decide_eq_true_eq, Bool.or_eq_false_iff, Bool.and_eq_false_iff, decide_eq_false_iff_not, Bool.not_eq_true', Bool.not_eq_false', Bool.not_true, Bool.not_false] at hg; have h1 := hol2 hg; omega) | (intro hg; simp only [Bool.cond_true_left, Bool.cond_false_right, Bool.cond_true_right, Bool.cond_false_left, Bool.or_eq_true, Bool.and_eq_true, decide_eq_true_eq, Bool.or_eq_false_iff, Bool.and_eq_false_iff, decide_eq_false_iff_not, Bool.not_eq_true', Bool.not_eq_false', Bool.not_true, Bool.not_false] at hg; have h1 := hol2 hg.1; omega) | exact fun h => h | exact fun _ => rfl | (intro h; rw [h]; rfl) | omega | ((try dsimp only [Ty.T]); (try simp only [castL_self]); (try simp only [Int.toNat_natCast]); (try simp only [Int.toNat_zero]); (try simp only [true_and]); omega) | (intros; (try dsimp only [Ty.T]); (try simp only [castL_self]); (try simp only [Int.toNat_natCast]); (try simp only [Int.toNat_zero]); (try simp only [true_and]); omega) | ((try dsimp only [Ty.T, Ty.size]); (try simp only [castL_self, Int.toNat_natCast, Int.toNat_zero, true_and, List.length_append, List.length_set, List.length_cons, List.length_nil, Nat.zero_add, Nat.mul_one]); omega) | ((try dsimp only [Ty.T, Ty.size]); (try simp only [castL_self, Int.toNat_natCast, Int.toNat_zero, Int.toNat_one, true_and, List.length_append, List.length_set, List.length_drop, List.length_take, List.length_replicate, List.length_cons, List.length_nil, Nat.zero_add, Nat.mul_one]); omega) | decide | (intros; simp_all; done) | (intros; simp_all; omega)) ?_
              refine hK50 _ _ ?_
              clear hK50
              first | refine AWPD.cond rfl (fun h13 => ?_) (fun h13 => ?_)
              · try dsimp only [Ty.T] at h13
                try simp only [castL_self] at h13
                try simp only [Int.toNat_natCast] at h13
                try simp only [Int.toNat_zero] at h13
                try simp only [Bool.cond_true_left, Bool.cond_false_right, Bool.cond_true_right, Bool.cond_false_left, Bool.or_eq_true, Bool.and_eq_true, decide_eq_true_eq, Bool.or_eq_false_iff, Bool.and_eq_false_iff, decide_eq_false_iff_not, Bool.not_eq_true', Bool.not_eq_false', Bool.not_eq_eq_eq_not, Bool.not_true, Bool.not_false] at h13
                exfalso; exact h13.2 (least_other g he (hgaN h11.2) (by omega) (by omega) h13.1.1.1 h13.1.1.2 h13.1.2)
              · try dsimp only [Ty.T] at h13
                try simp only [castL_self] at h13
                try simp only [Int.toNat_natCast] at h13
                try simp only [Int.toNat_zero] at h13
                try simp only [Bool.cond_true_left, Bool.cond_false_right, Bool.cond_true_right, Bool.cond_false_left, Bool.or_eq_true, Bool.and_eq_true, decide_eq_true_eq, Bool.or_eq_false_iff, Bool.and_eq_false_iff, decide_eq_false_iff_not, Bool.not_eq_true', Bool.not_eq_false', Bool.not_eq_eq_eq_not, Bool.not_true, Bool.not_false] at h13
                refine AWPD.skip ?_
                refine hK49 _ _ ?_
                clear hK49
                -- region 39
                refine AWPD.keep [3, 10, 12, 14, 15, 22, 23] rfl ?_
                refine AWPD.region tabOK rfl ?_
                repeat refine And.intro (by first | (intro hg; simp only [Bool.cond_true_left, Bool.cond_false_right, Bool.cond_true_right, Bool.cond_false_left, Bool.or_eq_true, Bool.and_eq_true, decide_eq_true_eq, Bool.or_eq_false_iff, Bool.and_eq_false_iff, decide_eq_false_iff_not, Bool.not_eq_true', Bool.not_eq_false', Bool.not_true, Bool.not_false] at hg; have h1 := hol hg; omega) | (intro hg; simp only [Bool.cond_true_left, Bool.cond_false_right, Bool.cond_true_right, Bool.cond_false_left, Bool.or_eq_true, Bool.and_eq_true, decide_eq_true_eq, Bool.or_eq_false_iff, Bool.and_eq_false_iff, decide_eq_false_iff_not, Bool.not_eq_true', Bool.not_eq_false', Bool.not_true, Bool.not_false] at hg; have h1 := hol hg.1; omega) | (intro hg; simp only [Bool.cond_true_left, Bool.cond_false_right, Bool.cond_true_right, Bool.cond_false_left, Bool.or_eq_true, Bool.and_eq_true, decide_eq_true_eq, Bool.or_eq_false_iff, Bool.and_eq_false_iff, decide_eq_false_iff_not, Bool.not_eq_true', Bool.not_eq_false', Bool.not_true, Bool.not_false] at hg; have h1 := hol2 hg; omega) | (intro hg; simp only [Bool.cond_true_left, Bool.cond_false_right, Bool.cond_true_right, Bool.cond_false_left, Bool.or_eq_true, Bool.and_eq_true, decide_eq_true_eq, Bool.or_eq_false_iff, Bool.and_eq_false_iff, decide_eq_false_iff_not, Bool.not_eq_true', Bool.not_eq_false', Bool.not_true, Bool.not_false] at hg; have h1 := hol2 hg.1; omega) | exact fun h => h | exact fun _ => rfl | (intro h; rw [h]; rfl) | omega | ((try dsimp only [Ty.T]); (try simp only [castL_self]); (try simp only [Int.toNat_natCast]); (try simp only [Int.toNat_zero]); (try simp only [true_and]); omega) | (intros; (try dsimp only [Ty.T]); (try simp only [castL_self]); (try simp only [Int.toNat_natCast]); (try simp only [Int.toNat_zero]); (try simp only [true_and]); omega) | ((try dsimp only [Ty.T, Ty.size]); (try simp only [castL_self, Int.toNat_natCast, Int.toNat_zero, true_and, List.length_append, List.length_set, List.length_cons, List.length_nil, Nat.zero_add, Nat.mul_one]); omega) | ((try dsimp only [Ty.T, Ty.size]); (try simp only [castL_self, Int.toNat_natCast, Int.toNat_zero, Int.toNat_one, true_and, List.length_append, List.length_set, List.length_drop, List.length_take, List.length_replicate, List.length_cons, List.length_nil, Nat.zero_add, Nat.mul_one]); omega) | decide | (intros; simp_all; done) | (intros; simp_all; omega)) ?_
                refine ⟨n4 - 1, j + 1, [], by omega, by omega, ⟨by decide, rfl⟩, trivial, ?_⟩
                repeat' first | exact True.intro | exact rfl | exact ⟨rfl, rfl⟩ | refine And.intro ?_ ?_
            · try dsimp only [Ty.T] at h12
              try simp only [castL_self] at h12
              try simp only [Int.toNat_natCast] at h12
              try simp only [Int.toNat_zero] at h12
              refine AWPD.exit ?_
              refine hK45 _ _ ?_
              clear hK45
              -- region 36
              refine AWPD.keep [3, 10, 12, 14, 15, 22] rfl ?_
              refine AWPD.region tabOK rfl ?_
              repeat refine And.intro (by first | (intro hg; simp only [Bool.cond_true_left, Bool.cond_false_right, Bool.cond_true_right, Bool.cond_false_left, Bool.or_eq_true, Bool.and_eq_true, decide_eq_true_eq, Bool.or_eq_false_iff, Bool.and_eq_false_iff, decide_eq_false_iff_not, Bool.not_eq_true', Bool.not_eq_false', Bool.not_true, Bool.not_false] at hg; have h1 := hol hg; omega) | (intro hg; simp only [Bool.cond_true_left, Bool.cond_false_right, Bool.cond_true_right, Bool.cond_false_left, Bool.or_eq_true, Bool.and_eq_true, decide_eq_true_eq, Bool.or_eq_false_iff, Bool.and_eq_false_iff, decide_eq_false_iff_not, Bool.not_eq_true', Bool.not_eq_false', Bool.not_true, Bool.not_false] at hg; have h1 := hol hg.1; omega) | (intro hg; simp only [Bool.cond_true_left, Bool.cond_false_right, Bool.cond_true_right, Bool.cond_false_left, Bool.or_eq_true, Bool.and_eq_true, decide_eq_true_eq, Bool.or_eq_false_iff, Bool.and_eq_false_iff, decide_eq_false_iff_not, Bool.not_eq_true', Bool.not_eq_false', Bool.not_true, Bool.not_false] at hg; have h1 := hol2 hg; omega) | (intro hg; simp only [Bool.cond_true_left, Bool.cond_false_right, Bool.cond_true_right, Bool.cond_false_left, Bool.or_eq_true, Bool.and_eq_true, decide_eq_true_eq, Bool.or_eq_false_iff, Bool.and_eq_false_iff, decide_eq_false_iff_not, Bool.not_eq_true', Bool.not_eq_false', Bool.not_true, Bool.not_false] at hg; have h1 := hol2 hg.1; omega) | exact fun h => h | exact fun _ => rfl | (intro h; rw [h]; rfl) | omega | ((try dsimp only [Ty.T]); (try simp only [castL_self]); (try simp only [Int.toNat_natCast]); (try simp only [Int.toNat_zero]); (try simp only [true_and]); omega) | (intros; (try dsimp only [Ty.T]); (try simp only [castL_self]); (try simp only [Int.toNat_natCast]); (try simp only [Int.toNat_zero]); (try simp only [true_and]); omega) | ((try dsimp only [Ty.T, Ty.size]); (try simp only [castL_self, Int.toNat_natCast, Int.toNat_zero, true_and, List.length_append, List.length_set, List.length_cons, List.length_nil, Nat.zero_add, Nat.mul_one]); omega) | ((try dsimp only [Ty.T, Ty.size]); (try simp only [castL_self, Int.toNat_natCast, Int.toNat_zero, Int.toNat_one, true_and, List.length_append, List.length_set, List.length_drop, List.length_take, List.length_replicate, List.length_cons, List.length_nil, Nat.zero_add, Nat.mul_one]); omega) | decide | (intros; simp_all; done) | (intros; simp_all; omega)) ?_
              refine ⟨n3 - 1, i + 1, [], by omega, by omega, ⟨by decide, rfl⟩, trivial, ?_⟩
              repeat' first | exact True.intro | exact rfl | exact ⟨rfl, rfl⟩ | refine And.intro ?_ ?_
          · try dsimp only [Ty.T] at h11
            try simp only [castL_self] at h11
            try simp only [Int.toNat_natCast] at h11
            try simp only [Int.toNat_zero] at h11
            try simp only [Bool.cond_true_left, Bool.cond_false_right, Bool.cond_true_right, Bool.cond_false_left, Bool.or_eq_true, Bool.and_eq_true, decide_eq_true_eq, Bool.or_eq_false_iff, Bool.and_eq_false_iff, decide_eq_false_iff_not, Bool.not_eq_true', Bool.not_eq_false', Bool.not_eq_eq_eq_not, Bool.not_true, Bool.not_false] at h11
            refine AWPD.exit ?_
            refine hK41 _ _ ?_
            clear hK41
            refine AWPD.seq fun K51 hK51 => ?_
            -- region 42
            refine AWPD.keep [] rfl ?_
            refine AWPD.region tabOK rfl ?_
            refine hK51 _ _ ?_
            clear hK51
            refine AWPD.ret (And.intro (.inl rfl) ?_)
            -- result 1
            refine RetD.one ?_
            exact fitB rfl rfl
end Go.Proofs.YtndoigkmdcgjfaaDoor
