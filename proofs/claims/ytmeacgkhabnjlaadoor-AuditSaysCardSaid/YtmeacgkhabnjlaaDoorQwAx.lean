/-
  WALKS of the twin of bits, and of the law AuditGives. Laid by a program of mine out of the operations, with the loops and results told by hand.
-/
import Derived.Test.YtmeacgkhabnjlaaDoorQwAw
import Derived.Test.YtmeacgkhabnjlaaDoorQwSc
import Derived.Test.YtmeacgkhabnjlaaDoorQwEr
namespace Go.Proofs.YtmeacgkhabnjlaaDoor
open Go Go.Qw
set_option maxRecDepth 10000
set_option linter.unusedSimpArgs false
set_option linter.unusedVariables false
set_option linter.unusedSectionVars false


def firstN (p : Nat → Bool) : Nat → Option Nat
  | 0 => none
  | k + 1 => match firstN p k with
    | some x => some x
    | none => if p k = true then some k else none
theorem first_next {p : Nat → Bool} {k : Nat} (h : firstN p k = none) (hb : ¬p k = true) : firstN p (k + 1) = none := by rw [firstN, h]; exact if_neg hb
theorem first_keep {p : Nat → Bool} {k x : Nat} (h : firstN p k = some x) : ∀ d, firstN p (k + d) = some x
  | 0 => h
  | d + 1 => by show firstN p (k + d + 1) = _; rw [firstN, first_keep h d]
theorem first_at {p : Nat → Bool} {x m : Nat} (h : firstN p x = none) (hb : p x = true) (hm : x < m) : firstN p m = some x := by
  have h1 : firstN p (x + 1) = some x := by rw [firstN, h]; exact if_pos hb
  have := first_keep h1 (m - (x + 1))
  rwa [show x + 1 + (m - (x + 1)) = m by omega] at this
theorem first_some {p : Nat → Bool} {x : Nat} : ∀ {m}, firstN p m = some x → x < m ∧ p x = true ∧ ∀ y, y < x → p y = false
  | 0, h => by cases h
  | m + 1, h => by
    rw [firstN] at h
    cases hm : firstN p m with
    | some y =>
      rw [hm] at h
      cases h
      have := first_some hm
      exact ⟨by omega, this.2⟩
    | none =>
      rw [hm] at h
      simp only at h
      split at h
      · rename_i hp
        cases h
        refine ⟨by omega, hp, fun y hy => ?_⟩
        cases hpy : p y with
        | false => rfl
        | true =>
          cases hf : firstN p y with
          | none => rw [first_at hf hpy hy] at hm; cases hm
          | some u =>
            have := first_keep hf (x - y)
            rw [show y + (x - y) = x by omega, hm] at this
            cases this
      · cases h
theorem first_none {p : Nat → Bool} {m : Nat} (h : firstN p m = none) {y : Nat} (hy : y < m) : p y = false := by
  cases hpy : p y with
  | false => rfl
  | true =>
    cases hf : firstN p y with
    | none => rw [first_at hf hpy hy] at h; cases h
    | some u =>
      have := first_keep hf (m - y)
      rw [show y + (m - y) = m by omega, h] at this
      cases this
def twOK (asks : List Int) (bits s : Int) (x : Nat) : Bool := parB ((x ^^^ bits.toNat) &&& s.toNat) && decide (∀ j, j < asks.length → parB ((x ^^^ bits.toNat) &&& (asks.getD j 0).toNat) = false)
theorem twOK_iff {asks : List Int} {bits s : Int} {x : Nat} : twOK asks bits s x = true ↔ parB ((x ^^^ bits.toNat) &&& s.toNat) = true ∧ ∀ j, j < asks.length → parB ((x ^^^ bits.toNat) &&& (asks.getD j 0).toNat) = false := by
  unfold twOK; rw [Bool.and_eq_true, decide_eq_true_eq]
def twinO (z : Int) (asks : List Int) (bits s : Int) : Option Nat := firstN (twOK asks bits s) (2 ^ z.toNat)
def twinE (z : Int) (asks : List Int) (bits s : Int) : Int := if askE z asks = 0 then (if maskB bits z = true ∧ maskB s z = true then (if (twinO z asks bits s).isSome = true then 0 else 5) else 1) else askE z asks
def twinV (z : Int) (asks : List Int) (bits s : Int) : Int := if twinE z asks bits s = 0 then (((twinO z asks bits s).getD 0 : Nat) : Int) else 0
theorem par_one {x : Nat} : popN x % 2 = 1 ↔ parB x = true := by unfold parB; rw [decide_eq_true_eq]
theorem par_no {x : Nat} : popN x % 2 = 0 ↔ parB x = false := by unfold parB; rw [decide_eq_false_iff_not]; omega
theorem xor_and {x : Nat} {b s : Int} (hx : x ≤ 4095) (hb : 0 ≤ b ∧ b ≤ 4095) (hs : 0 ≤ s ∧ s ≤ 4095) : bitsI .and (bitsI .xor (x : Int) b) s = (((x ^^^ b.toNat) &&& s.toNat : Nat) : Int) ∧ (x ^^^ b.toNat) &&& s.toNat ≤ 4095 := by
  have h1 : x ^^^ b.toNat < 2 ^ 12 := Nat.xor_lt_two_pow (by omega) (by omega)
  have h2 : (x ^^^ b.toNat) &&& s.toNat ≤ s.toNat := Nat.and_le_right
  rw [bits_xor (by omega) (by omega), Int.toNat_natCast, bits_and (by omega) (by omega), Int.toNat_natCast]
  exact ⟨rfl, by omega⟩

theorem twin_fn (z : Int) (asks : List Int) (bits s : Int) : LiftsD Tryd.prog 9 [.i z, .sl .int asks, .i bits, .i s] (.tup [.i (twinV z asks bits s), .er 56 (twinE z asks bits s)]) := by
  refine LiftsD.of_body 60 [.tmp 8, .tmp 9] Tryd.func9 rfl Tryd.ntmps9 (by kernel_rfl) rfl rfl fun w0 X0 => ?_
  refine AWPD.seq fun K1 hK1 => ?_
  -- region 0
  refine AWPD.keep [0, 1, 2, 3] rfl ?_
  refine AWPD.region tabOK rfl ?_
  refine hK1 _ _ ?_
  clear hK1
  refine AWPD.scope ?_
  refine AWPD.seq fun K2 hK2 => ?_
  refine AWPD.seq fun K3 hK3 => ?_
  -- region 1
  refine AWPD.keep [0, 1, 2, 3] rfl ?_
  refine AWPD.region tabOK rfl ?_
  refine Exists.intro _ (Exists.intro _ (And.intro (StepD.call (acheck_fn _ _) rfl rfl rfl) (And.intro rfl (And.intro trivial ?_))))
  refine hK3 _ _ ?_
  clear hK3
  refine AWPD.seq fun K4 hK4 => ?_
  -- region 2
  refine AWPD.keep [0, 1, 2, 3, 10] rfl ?_
  refine AWPD.region tabOK rfl ?_
  refine hK4 _ _ ?_
  clear hK4
  first | refine AWPD.condP rfl (fun h0 => ?_) (fun h0 => ?_) | refine AWPD.condN rfl (fun h0 => ?_) (fun h0 => ?_) | refine AWPD.condAP rfl (fun h0 => ?_) (fun h0 => ?_) | refine AWPD.condOP rfl (fun h0 => ?_) (fun h0 => ?_) | refine AWPD.condONN rfl (fun h0 => ?_) (fun h0 => ?_) | refine AWPD.condOPN rfl (fun h0 => ?_) (fun h0 => ?_) | refine AWPD.condA rfl (fun h0 => ?_) (fun h0 => ?_) | refine AWPD.condO rfl (fun h0 => ?_) (fun h0 => ?_) | refine AWPD.cond rfl (fun h0 => ?_) (fun h0 => ?_)
  · try dsimp only [Ty.T] at h0
    try simp only [castL_self] at h0
    try simp only [Int.toNat_natCast] at h0
    try simp only [Int.toNat_zero] at h0
    refine AWPD.seq fun K5 hK5 => ?_
    -- region 3
    refine AWPD.keep [10] rfl ?_
    refine AWPD.region tabOK rfl ?_
    refine hK5 _ _ ?_
    clear hK5
    refine AWPD.ret (And.intro (.inl rfl) ?_)
    -- result 0
    have ht : twinE z asks bits s = askE z asks := by unfold twinE; rw [if_neg h0]
    exact ⟨fitI rfl (by unfold twinV; rw [ht, if_neg h0]), fitE rfl ht.symm⟩
  · try dsimp only [Ty.T] at h0
    try simp only [castL_self] at h0
    try simp only [Int.toNat_natCast] at h0
    try simp only [Int.toNat_zero] at h0
    have he : askE z asks = 0 := by simpa using h0
    have g := ask_ok he
    have gz := g.n0
    have gl := g.len
    refine AWPD.skip ?_
    refine hK2 _ _ ?_
    clear hK2
    refine AWPD.seq fun K6 hK6 => ?_
    refine AWPD.seq fun K7 hK7 => ?_
    -- region 4
    refine AWPD.keep [0, 1, 2, 3] rfl ?_
    refine AWPD.region tabOK rfl ?_
    refine Exists.intro _ (Exists.intro _ (And.intro (StepD.call (mask_fn _ _ (by omega)) rfl rfl rfl) (And.intro rfl (And.intro trivial ?_))))
    repeat refine And.intro (by first | exact fun h => h | exact fun _ => rfl | (intro h; rw [h]; rfl) | omega | (intros; (try dsimp only [Ty.T, Ty.size]); (try simp only [castL_self, Int.toNat_natCast, Int.toNat_zero, Int.toNat_one, true_and, List.length_append, List.length_set, List.length_drop, List.length_take, List.length_replicate, List.length_cons, List.length_nil, Nat.zero_add, Nat.mul_one]); omega) | decide | (intros; simp_all; done) | (intros; simp_all; omega)) ?_
    refine Exists.intro _ (Exists.intro _ (And.intro (fun hg => StepD.call (mask_fn _ _ (by omega)) rfl rfl rfl) (And.intro (fun hf => rfl) (And.intro rfl (And.intro trivial ?_)))))
    repeat refine And.intro (by first | exact fun h => h | exact fun _ => rfl | (intro h; rw [h]; rfl) | omega | (intros; (try dsimp only [Ty.T, Ty.size]); (try simp only [castL_self, Int.toNat_natCast, Int.toNat_zero, Int.toNat_one, true_and, List.length_append, List.length_set, List.length_drop, List.length_take, List.length_replicate, List.length_cons, List.length_nil, Nat.zero_add, Nat.mul_one]); omega) | decide | (intros; simp_all; done) | (intros; simp_all; omega)) ?_
    refine hK7 _ _ ?_
    clear hK7
    first | refine AWPD.cond rfl (fun h1 => ?_) (fun h1 => ?_)
    · try dsimp only [Ty.T] at h1
      try simp only [castL_self] at h1
      try simp only [Int.toNat_natCast] at h1
      try simp only [Int.toNat_zero] at h1
      have hm : ¬(maskB bits z = true ∧ maskB s z = true) := by
        rintro ⟨a, b⟩
        rw [a, b] at h1
        cases h1
      refine AWPD.seq fun K8 hK8 => ?_
      -- region 5
      refine AWPD.keep [] rfl ?_
      refine AWPD.region tabOK rfl ?_
      repeat refine And.intro (by first | exact fun h => h | exact fun _ => rfl | (intro h; rw [h]; rfl) | omega | (intros; (try dsimp only [Ty.T, Ty.size]); (try simp only [castL_self, Int.toNat_natCast, Int.toNat_zero, Int.toNat_one, true_and, List.length_append, List.length_set, List.length_drop, List.length_take, List.length_replicate, List.length_cons, List.length_nil, Nat.zero_add, Nat.mul_one]); omega) | decide | (intros; simp_all; done) | (intros; simp_all; omega)) ?_
      refine hK8 _ _ ?_
      clear hK8
      refine AWPD.ret (And.intro (.inl rfl) ?_)
      -- result 1
      have ht : twinE z asks bits s = 1 := by unfold twinE; rw [if_pos he, if_neg hm]
      exact ⟨fitI rfl (by unfold twinV; rw [ht]; rfl), fitE rfl ht.symm⟩
    · try dsimp only [Ty.T] at h1
      try simp only [castL_self] at h1
      try simp only [Int.toNat_natCast] at h1
      try simp only [Int.toNat_zero] at h1
      have hm : maskB bits z = true ∧ maskB s z = true := by simpa using h1
      have m1 := mask_in hm.1
      have m2 := mask_in hm.2
      have hpp := pow12 (n := z.toNat) (by omega)
      refine AWPD.skip ?_
      refine hK6 _ _ ?_
      clear hK6
      refine AWPD.seq fun K9 hK9 => ?_
      refine AWPD.label ?_
      refine hK9 _ _ ?_
      clear hK9
      refine AWPD.seq fun K10 hK10 => ?_
      refine AWPD.seq fun K11 hK11 => ?_
      -- region 6
      refine AWPD.keep [0, 1, 2, 3] rfl ?_
      refine AWPD.region tabOK rfl ?_
      repeat refine And.intro (by first | exact fun h => h | exact fun _ => rfl | (intro h; rw [h]; rfl) | omega | (intros; (try dsimp only [Ty.T, Ty.size]); (try simp only [castL_self, Int.toNat_natCast, Int.toNat_zero, Int.toNat_one, true_and, List.length_append, List.length_set, List.length_drop, List.length_take, List.length_replicate, List.length_cons, List.length_nil, Nat.zero_add, Nat.mul_one]); omega) | decide | (intros; simp_all; done) | (intros; simp_all; omega)) ?_
      refine hK11 _ _ ?_
      clear hK11
      refine AWPD.block ?_
      -- LOOP 0 live [1, 2, 3, 32, 33] changed [33]
      refine AWPD.loopK (σ := Nat) [1, 2, 3] (fun x base => (32, .i ((2 ^ z.toNat : Nat) : Int)) :: (33, .i (x : Int)) :: base) (fun _ => []) (fun n x => n + x = 2 ^ z.toNat ∧ firstN (twOK asks bits s) x = none) (2 ^ z.toNat) 0 [] rfl rfl (⟨by omega, rfl⟩) (by decide) trivial (by repeat' first | exact shl_one (by omega) | exact True.intro | exact rfl | exact ⟨rfl, rfl⟩ | refine And.intro ?_ ?_) fun n0 x hI0 => ?_
      obtain ⟨hn0, hv0⟩ := hI0
      refine AWPD.seq fun K12 hK12 => ?_
      -- region 7
      refine AWPD.keep [1, 2, 3, 32, 33] rfl ?_
      refine AWPD.region tabOK rfl ?_
      refine hK12 _ _ ?_
      clear hK12
      refine AWPD.seq fun K13 hK13 => ?_
      first | refine AWPD.condP rfl (fun h2 => ?_) (fun h2 => ?_) | refine AWPD.condN rfl (fun h2 => ?_) (fun h2 => ?_) | refine AWPD.condAP rfl (fun h2 => ?_) (fun h2 => ?_) | refine AWPD.condOP rfl (fun h2 => ?_) (fun h2 => ?_) | refine AWPD.condONN rfl (fun h2 => ?_) (fun h2 => ?_) | refine AWPD.condOPN rfl (fun h2 => ?_) (fun h2 => ?_) | refine AWPD.condA rfl (fun h2 => ?_) (fun h2 => ?_) | refine AWPD.condO rfl (fun h2 => ?_) (fun h2 => ?_) | refine AWPD.cond rfl (fun h2 => ?_) (fun h2 => ?_)
      · try dsimp only [Ty.T] at h2
        try simp only [castL_self] at h2
        try simp only [Int.toNat_natCast] at h2
        try simp only [Int.toNat_zero] at h2
        have hxl : x < 2 ^ z.toNat := by omega
        have hxs := xor_and (x := x) (b := bits) (s := s) (by omega) (by omega) (by omega)
        refine AWPD.skip ?_
        refine hK13 _ _ ?_
        clear hK13
        refine AWPD.seq fun K14 hK14 => ?_
        refine AWPD.block ?_
        refine AWPD.seq fun K15 hK15 => ?_
        -- region 8
        refine AWPD.keep [1, 2, 3, 32, 33] rfl ?_
        refine AWPD.region tabOK rfl ?_
        refine hK15 _ _ ?_
        clear hK15
        refine AWPD.seq fun K16 hK16 => ?_
        refine AWPD.seq fun K17 hK17 => ?_
        -- region 9
        refine AWPD.keep [1, 2, 3, 11, 32, 33] rfl ?_
        refine AWPD.region tabOK rfl ?_
        refine Exists.intro _ (Exists.intro _ (And.intro (StepD.call (aodd_fn (bitsI .and (bitsI .xor (x : Int) bits) s) (by omega)) rfl rfl rfl) (And.intro rfl (And.intro trivial ?_))))
        refine hK17 _ _ ?_
        clear hK17
        first | refine AWPD.condP rfl (fun h3 => ?_) (fun h3 => ?_) | refine AWPD.condN rfl (fun h3 => ?_) (fun h3 => ?_) | refine AWPD.condAP rfl (fun h3 => ?_) (fun h3 => ?_) | refine AWPD.condOP rfl (fun h3 => ?_) (fun h3 => ?_) | refine AWPD.condONN rfl (fun h3 => ?_) (fun h3 => ?_) | refine AWPD.condOPN rfl (fun h3 => ?_) (fun h3 => ?_) | refine AWPD.condA rfl (fun h3 => ?_) (fun h3 => ?_) | refine AWPD.condO rfl (fun h3 => ?_) (fun h3 => ?_) | refine AWPD.cond rfl (fun h3 => ?_) (fun h3 => ?_)
        · try dsimp only [Ty.T] at h3
          try simp only [castL_self] at h3
          try simp only [Int.toNat_natCast] at h3
          try simp only [Int.toNat_zero] at h3
          have hno : ¬twOK asks bits s x = true := fun hh => by
            have := par_one.2 (twOK_iff.1 hh).1
            rw [hxs.1, Int.toNat_natCast] at h3
            omega
          refine AWPD.exit ?_
          refine hK14 _ _ ?_
          clear hK14
          -- region 16
          refine AWPD.keep [1, 2, 3, 32, 33] rfl ?_
          refine AWPD.region tabOK rfl ?_
          repeat refine And.intro (by first | exact fun h => h | exact fun _ => rfl | (intro h; rw [h]; rfl) | omega | (intros; (try dsimp only [Ty.T, Ty.size]); (try simp only [castL_self, Int.toNat_natCast, Int.toNat_zero, Int.toNat_one, true_and, List.length_append, List.length_set, List.length_drop, List.length_take, List.length_replicate, List.length_cons, List.length_nil, Nat.zero_add, Nat.mul_one]); omega) | decide | (intros; simp_all; done) | (intros; simp_all; omega)) ?_
          refine ⟨n0 - 1, x + 1, [], by omega, ⟨by omega, first_next hv0 hno⟩, ⟨by decide, rfl⟩, trivial, ?_⟩
          repeat' first | exact True.intro | exact rfl | exact ⟨rfl, rfl⟩ | refine And.intro ?_ ?_
        · try dsimp only [Ty.T] at h3
          try simp only [castL_self] at h3
          try simp only [Int.toNat_natCast] at h3
          try simp only [Int.toNat_zero] at h3
          have hp1 : parB ((x ^^^ bits.toNat) &&& s.toNat) = true := par_one.1 (by rw [hxs.1, Int.toNat_natCast] at h3; omega)
          refine AWPD.skip ?_
          refine hK16 _ _ ?_
          clear hK16
          refine AWPD.seq fun K18 hK18 => ?_
          refine AWPD.seq fun K19 hK19 => ?_
          -- region 10
          refine AWPD.keep [1, 2, 3, 11, 32, 33] rfl ?_
          refine AWPD.region tabOK rfl ?_
          refine hK19 _ _ ?_
          clear hK19
          refine AWPD.block ?_
          -- LOOP 1 live [1, 2, 3, 11, 32, 33, 43, 44, 45] changed [45]
          refine AWPD.loopK (σ := Nat) [1, 2, 3, 11, 32, 33, 43, 44] (fun i base => (45, .i (i : Int)) :: base) (fun _ => []) (fun n i => n + i = asks.length ∧ ∀ j, j < i → parB ((x ^^^ bits.toNat) &&& (asks.getD j 0).toNat) = false) (asks.length) 0 [] rfl rfl (⟨by omega, by intro j hj; omega⟩) (by decide) trivial (by repeat' first | exact True.intro | exact rfl | exact ⟨rfl, rfl⟩ | refine And.intro ?_ ?_) fun n1 i hI1 => ?_
          obtain ⟨hn1, hv1⟩ := hI1
          refine AWPD.seq fun K20 hK20 => ?_
          -- region 11
          refine AWPD.keep [1, 2, 3, 11, 32, 33, 43, 44, 45] rfl ?_
          refine AWPD.region tabOK rfl ?_
          refine hK20 _ _ ?_
          clear hK20
          refine AWPD.seq fun K21 hK21 => ?_
          first | refine AWPD.condP rfl (fun h4 => ?_) (fun h4 => ?_) | refine AWPD.condN rfl (fun h4 => ?_) (fun h4 => ?_) | refine AWPD.condAP rfl (fun h4 => ?_) (fun h4 => ?_) | refine AWPD.condOP rfl (fun h4 => ?_) (fun h4 => ?_) | refine AWPD.condONN rfl (fun h4 => ?_) (fun h4 => ?_) | refine AWPD.condOPN rfl (fun h4 => ?_) (fun h4 => ?_) | refine AWPD.condA rfl (fun h4 => ?_) (fun h4 => ?_) | refine AWPD.condO rfl (fun h4 => ?_) (fun h4 => ?_) | refine AWPD.cond rfl (fun h4 => ?_) (fun h4 => ?_)
          · try dsimp only [Ty.T] at h4
            try simp only [castL_self] at h4
            try simp only [Int.toNat_natCast] at h4
            try simp only [Int.toNat_zero] at h4
            have hil : i < asks.length := by omega
            have hai := g.small hil
            have hxa := xor_and (x := x) (b := bits) (s := asks.getD i 0) (by omega) (by omega) hai
            refine AWPD.skip ?_
            refine hK21 _ _ ?_
            clear hK21
            refine AWPD.seq fun K22 hK22 => ?_
            refine AWPD.block ?_
            refine AWPD.seq fun K23 hK23 => ?_
            -- region 12
            refine AWPD.keep [1, 2, 3, 11, 32, 33, 43, 44, 45] rfl ?_
            refine AWPD.region tabOK rfl ?_
            repeat refine And.intro (by first | exact fun h => h | exact fun _ => rfl | (intro h; rw [h]; rfl) | omega | (intros; (try dsimp only [Ty.T, Ty.size]); (try simp only [castL_self, Int.toNat_natCast, Int.toNat_zero, Int.toNat_one, true_and, List.length_append, List.length_set, List.length_drop, List.length_take, List.length_replicate, List.length_cons, List.length_nil, Nat.zero_add, Nat.mul_one]); omega) | decide | (intros; simp_all; done) | (intros; simp_all; omega)) ?_
            refine hK23 _ _ ?_
            clear hK23
            refine AWPD.seq fun K24 hK24 => ?_
            -- region 13
            refine AWPD.keep [1, 2, 3, 11, 13, 32, 33, 43, 44, 45] rfl ?_
            refine AWPD.region tabOK rfl ?_
            refine Exists.intro _ (Exists.intro _ (And.intro (StepD.call (aodd_fn (bitsI .and (bitsI .xor (x : Int) bits) (asks.getD i 0)) (by omega)) rfl rfl rfl) (And.intro rfl (And.intro trivial ?_))))
            refine hK24 _ _ ?_
            clear hK24
            first | refine AWPD.condP rfl (fun h5 => ?_) (fun h5 => ?_) | refine AWPD.condN rfl (fun h5 => ?_) (fun h5 => ?_) | refine AWPD.condAP rfl (fun h5 => ?_) (fun h5 => ?_) | refine AWPD.condOP rfl (fun h5 => ?_) (fun h5 => ?_) | refine AWPD.condONN rfl (fun h5 => ?_) (fun h5 => ?_) | refine AWPD.condOPN rfl (fun h5 => ?_) (fun h5 => ?_) | refine AWPD.condA rfl (fun h5 => ?_) (fun h5 => ?_) | refine AWPD.condO rfl (fun h5 => ?_) (fun h5 => ?_) | refine AWPD.cond rfl (fun h5 => ?_) (fun h5 => ?_)
            · try dsimp only [Ty.T] at h5
              try simp only [castL_self] at h5
              try simp only [Int.toNat_natCast] at h5
              try simp only [Int.toNat_zero] at h5
              have hno : ¬twOK asks bits s x = true := fun hh => by
                have := par_no.2 ((twOK_iff.1 hh).2 i hil)
                rw [hxa.1, Int.toNat_natCast] at h5
                omega
              refine AWPD.exit ?_
              refine hK14 _ _ ?_
              clear hK14
              -- region 16
              refine AWPD.keep [1, 2, 3, 32, 33] rfl ?_
              refine AWPD.region tabOK rfl ?_
              repeat refine And.intro (by first | exact fun h => h | exact fun _ => rfl | (intro h; rw [h]; rfl) | omega | (intros; (try dsimp only [Ty.T, Ty.size]); (try simp only [castL_self, Int.toNat_natCast, Int.toNat_zero, Int.toNat_one, true_and, List.length_append, List.length_set, List.length_drop, List.length_take, List.length_replicate, List.length_cons, List.length_nil, Nat.zero_add, Nat.mul_one]); omega) | decide | (intros; simp_all; done) | (intros; simp_all; omega)) ?_
              refine ⟨n0 - 1, x + 1, [], by omega, ⟨by omega, first_next hv0 hno⟩, ⟨by decide, rfl⟩, trivial, ?_⟩
              repeat' first | exact True.intro | exact rfl | exact ⟨rfl, rfl⟩ | refine And.intro ?_ ?_
            · try dsimp only [Ty.T] at h5
              try simp only [castL_self] at h5
              try simp only [Int.toNat_natCast] at h5
              try simp only [Int.toNat_zero] at h5
              have hp2 : parB ((x ^^^ bits.toNat) &&& (asks.getD i 0).toNat) = false := par_no.1 (by rw [hxa.1, Int.toNat_natCast] at h5; omega)
              refine AWPD.skip ?_
              refine hK22 _ _ ?_
              clear hK22
              -- region 14
              refine AWPD.keep [1, 2, 3, 11, 32, 33, 43, 44, 45] rfl ?_
              refine AWPD.region tabOK rfl ?_
              repeat refine And.intro (by first | exact fun h => h | exact fun _ => rfl | (intro h; rw [h]; rfl) | omega | (intros; (try dsimp only [Ty.T, Ty.size]); (try simp only [castL_self, Int.toNat_natCast, Int.toNat_zero, Int.toNat_one, true_and, List.length_append, List.length_set, List.length_drop, List.length_take, List.length_replicate, List.length_cons, List.length_nil, Nat.zero_add, Nat.mul_one]); omega) | decide | (intros; simp_all; done) | (intros; simp_all; omega)) ?_
              refine ⟨n1 - 1, i + 1, [], by omega, ⟨by omega, fun j hj => by
                  rcases Nat.lt_or_ge j i with h | h
                  · exact hv1 j h
                  · rw [show j = i by omega]; exact hp2⟩, ⟨by decide, rfl⟩, trivial, ?_⟩
              repeat' first | exact True.intro | exact rfl | exact ⟨rfl, rfl⟩ | refine And.intro ?_ ?_
          · try dsimp only [Ty.T] at h4
            try simp only [castL_self] at h4
            try simp only [Int.toNat_natCast] at h4
            try simp only [Int.toNat_zero] at h4
            have hyes : twOK asks bits s x = true := twOK_iff.2 ⟨hp1, fun j hj => hv1 j (by omega)⟩
            refine AWPD.exit ?_
            refine hK18 _ _ ?_
            clear hK18
            refine AWPD.seq fun K25 hK25 => ?_
            -- region 15
            refine AWPD.keep [11] rfl ?_
            refine AWPD.region tabOK rfl ?_
            refine hK25 _ _ ?_
            clear hK25
            refine AWPD.ret (And.intro (.inl rfl) ?_)
            -- result 2
            have ho : twinO z asks bits s = some x := first_at hv0 hyes hxl
            have ht : twinE z asks bits s = 0 := by unfold twinE; rw [if_pos he, if_pos hm, ho]; rfl
            exact ⟨fitI rfl (by unfold twinV; rw [if_pos ht, ho]; rfl), fitE rfl ht.symm⟩
      · try dsimp only [Ty.T] at h2
        try simp only [castL_self] at h2
        try simp only [Int.toNat_natCast] at h2
        try simp only [Int.toNat_zero] at h2
        have hxl : x = 2 ^ z.toNat := by omega
        refine AWPD.exit ?_
        refine hK10 _ _ ?_
        clear hK10
        refine AWPD.seq fun K26 hK26 => ?_
        -- region 17
        refine AWPD.keep [] rfl ?_
        refine AWPD.region tabOK rfl ?_
        repeat refine And.intro (by first | exact fun h => h | exact fun _ => rfl | (intro h; rw [h]; rfl) | omega | (intros; (try dsimp only [Ty.T, Ty.size]); (try simp only [castL_self, Int.toNat_natCast, Int.toNat_zero, Int.toNat_one, true_and, List.length_append, List.length_set, List.length_drop, List.length_take, List.length_replicate, List.length_cons, List.length_nil, Nat.zero_add, Nat.mul_one]); omega) | decide | (intros; simp_all; done) | (intros; simp_all; omega)) ?_
        refine hK26 _ _ ?_
        clear hK26
        refine AWPD.ret (And.intro (.inl rfl) ?_)
        -- result 3
        have ho : twinO z asks bits s = none := by unfold twinO; rw [← hxl]; exact hv0
        have ht : twinE z asks bits s = 5 := by unfold twinE; rw [if_pos he, if_pos hm, ho]; rfl
        exact ⟨fitI rfl (by unfold twinV; rw [ht]; rfl), fitE rfl ht.symm⟩
end Go.Proofs.YtmeacgkhabnjlaaDoor
