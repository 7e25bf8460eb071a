/-
  WALKS of policies, of what is purged, taken directly and through others. Laid by a program of mine out of the operations, with the loops and results told by hand.
-/
import Derived.Test.YtndoigkmdcgjfaaDoorQwMa
namespace Go.Proofs.YtndoigkmdcgjfaaDoor
open Go Go.Qw
set_option maxRecDepth 10000
set_option linter.unusedSimpArgs false
set_option linter.unusedVariables false
set_option linter.unusedSectionVars false


def polSt (P : Int) (f : List Int) (i : Nat) : Int := if ¬maskB (f.getD i 0) P = true then 1 else if (f.getD i 0).toNat.testBit i = true then 0 else 6
def polE (P : Int) (A : List Int) (N S : List (List Int)) (f : List Int) : Int :=
  if machE P A N S ≠ 0 then machE P A N S else if (f.length : Int) ≠ P then 3 else fE (polSt P f) f.length
theorem polE_st {P : Int} {A : List Int} {N S : List (List Int)} {f : List Int} (h : machE P A N S = 0) (h1 : (f.length : Int) = P) : polE P A N S f = fE (polSt P f) f.length := by
  unfold polE; rw [if_neg (fun x => x h), if_neg (fun x => x h1)]
theorem mask_le {a P : Int} (h : maskB a P = true) (hP : P ≤ 5) : 0 ≤ a ∧ a ≤ 31 ∧ a.toNat < 2 ^ P.toNat := by
  unfold maskB at h
  have h := of_decide_eq_true h
  have : 2 ^ P.toNat ≤ 2 ^ 5 := Nat.pow_le_pow_right (by decide) (by omega)
  omega
structure GoodF (P : Int) (f : List Int) : Prop where
  len : (f.length : Int) = P
  mask : ∀ i, i < f.length → maskB (f.getD i 0) P = true
  self : ∀ i, i < f.length → (f.getD i 0).toNat.testBit i = true
theorem pol_ok {P : Int} {A : List Int} {N S : List (List Int)} {f : List Int} (h : polE P A N S f = 0) : machE P A N S = 0 ∧ GoodF P f := by
  unfold polE at h
  split at h
  · rename_i h1; exact absurd h h1
  · split at h
    · cases h
    · rename_i h1 h2
      have hz := fE_of h
      have st : ∀ i, i < f.length → maskB (f.getD i 0) P = true ∧ (f.getD i 0).toNat.testBit i = true := fun i hi => by
        have := hz i hi
        unfold polSt at this
        split at this
        · cases this
        · split at this
          · rename_i a b; exact ⟨Decidable.not_not.1 a, b⟩
          · cases this
      exact ⟨Decidable.not_not.1 h1, Decidable.not_not.1 h2, fun i hi => (st i hi).1, fun i hi => (st i hi).2⟩
theorem GoodF.in_ {P : Int} {f : List Int} (g : GoodF P f) (hP : P ≤ 5) {i : Nat} (hi : i < f.length) : 0 ≤ f.getD i 0 ∧ f.getD i 0 ≤ 31 ∧ (f.getD i 0).toNat < 2 ^ P.toNat := mask_le (g.mask i hi) hP
def chkE (P : Int) (A : List Int) (N S : List (List Int)) (f : List Int) (part : Int) : Int :=
  if polE P A N S f ≠ 0 then polE P A N S f else if 0 ≤ part ∧ part ≤ P - 1 then 0 else 1
theorem chk_ok {P : Int} {A : List Int} {N S : List (List Int)} {f : List Int} {part : Int} (h : chkE P A N S f part = 0) : polE P A N S f = 0 ∧ 0 ≤ part ∧ part ≤ P - 1 := by
  unfold chkE at h
  split at h
  · rename_i h1; exact absurd h h1
  · split at h
    · rename_i h1 h2; exact ⟨Decidable.not_not.1 h1, h2⟩
    · cases h
def bothE (P : Int) (A : List Int) (N S : List (List Int)) (f : List Int) (part : Int) (w : List Int) : Int :=
  if chkE P A N S f part ≠ 0 then chkE P A N S f part else wordE P A N S w
/-- What is known where both a part and acts are in order. -/
structure GoodW (P : Int) (A : List Int) (N S : List (List Int)) (f : List Int) (part : Int) (w : List Int) : Prop where
  m : GoodM P A N S
  he : machE P A N S = 0
  f : GoodF P f
  part : 0 ≤ part ∧ part ≤ P - 1
  few : w.length ≤ 40
  w : inAll w ((A.length : Int) - 1)
theorem both_ok {P : Int} {A : List Int} {N S : List (List Int)} {f : List Int} {part : Int} {w : List Int} (h : bothE P A N S f part w = 0) : GoodW P A N S f part w := by
  unfold bothE at h
  split at h
  · rename_i h1; exact absurd h h1
  · rename_i h1
    obtain ⟨h2, h3⟩ := chk_ok (Decidable.not_not.1 h1)
    obtain ⟨h4, h5⟩ := pol_ok h2
    obtain ⟨_, h6, h7⟩ := word_ok h
    exact ⟨mach_good h4, h4, h5, h3, h6, h7⟩
theorem GoodW.act {P : Int} {A : List Int} {N S : List (List Int)} {f : List Int} {part : Int} {w : List Int} (g : GoodW P A N S f part w) {i : Nat} (hi : i < w.length) :
    0 ≤ w.getD i 0 ∧ (w.getD i 0).toNat < A.length ∧ 0 ≤ A.getD (w.getD i 0).toNat 0 ∧ (A.getD (w.getD i 0).toNat 0).toNat < f.length ∧ A.getD (w.getD i 0).toNat 0 ≤ 4 ∧ A.length ≤ 6 ∧ f.length ≤ 5 ∧
    0 ≤ f.getD (A.getD (w.getD i 0).toNat 0).toNat 0 ∧ f.getD (A.getD (w.getD i 0).toNat 0).toNat 0 ≤ 31 := by
  have h1 := g.w i hi
  have h2 := g.m.acts (w.getD i 0).toNat (by omega)
  have h3 := g.m.parts
  have h4 := g.f.len
  have h5 := g.m.acts6
  have h6 := g.f.in_ (by omega) (i := (A.getD (w.getD i 0).toNat 0).toNat) (by omega)
  exact ⟨h1.1, by omega, h2.1, by omega, by omega, by omega, by omega, h6.1, h6.2.1⟩
/-- May the act act on the part? -/
def actOn (A f : List Int) (part : Int) (a : Int) : Bool := (f.getD (A.getD a.toNat 0).toNat 0).toNat.testBit part.toNat
def purgeL (A f : List Int) (part : Int) (w : List Int) : List Int := w.filter (actOn A f part)
def purgeV (P : Int) (A : List Int) (N S : List (List Int)) (f : List Int) (part : Int) (w : List Int) : List Int := if bothE P A N S f part w = 0 then purgeL A f part w else []
theorem purge_yes {A f : List Int} {part : Int} {w : List Int} {i : Nat} (hi : i < w.length) (h : actOn A f part (w.getD i 0) = true) : purgeL A f part (w.take i) ++ [w.getD i 0] = purgeL A f part (w.take (i + 1)) := by
  unfold purgeL; rw [take_snoc hi 0, List.filter_append, List.filter_cons, if_pos h]; rfl
theorem purge_no {A f : List Int} {part : Int} {w : List Int} {i : Nat} (hi : i < w.length) (h : ¬actOn A f part (w.getD i 0) = true) : purgeL A f part (w.take i) = purgeL A f part (w.take (i + 1)) := by
  unfold purgeL; rw [take_snoc hi 0, List.filter_append, List.filter_cons, if_neg h]; simp
/-- The parts from which something may have come, and the acts that count, of the last k acts; the last ones first. -/
def srcS (A f : List Int) (part : Int) (w : List Int) : Nat → Nat × List Int
  | 0 => (2 ^ part.toNat, [])
  | k + 1 => if (f.getD (A.getD (w.getD (w.length - 1 - k) 0).toNat 0).toNat 0).toNat &&& (srcS A f part w k).1 ≠ 0 then ((srcS A f part w k).1 ||| 2 ^ (A.getD (w.getD (w.length - 1 - k) 0).toNat 0).toNat, (srcS A f part w k).2 ++ [w.getD (w.length - 1 - k) 0]) else srcS A f part w k
theorem srcS_len (A f : List Int) (part : Int) (w : List Int) : ∀ k, (srcS A f part w k).2.length ≤ k
  | 0 => Nat.le_refl _
  | k + 1 => by
    have := srcS_len A f part w k
    rw [srcS]
    split
    · simp; omega
    · omega
theorem srcS_yes {A f : List Int} {part : Int} {w : List Int} {k : Nat} (h : (f.getD (A.getD (w.getD (w.length - 1 - k) 0).toNat 0).toNat 0).toNat &&& (srcS A f part w k).1 ≠ 0) : srcS A f part w (k + 1) = ((srcS A f part w k).1 ||| 2 ^ (A.getD (w.getD (w.length - 1 - k) 0).toNat 0).toNat, (srcS A f part w k).2 ++ [w.getD (w.length - 1 - k) 0]) := by rw [srcS, if_pos h]
theorem srcS_no {A f : List Int} {part : Int} {w : List Int} {k : Nat} (h : ¬((f.getD (A.getD (w.getD (w.length - 1 - k) 0).toNat 0).toNat 0).toNat &&& (srcS A f part w k).1 ≠ 0)) : srcS A f part w (k + 1) = srcS A f part w k := by rw [srcS, if_neg h]
theorem or_lt32 {a b : Nat} (ha : a < 32) (hb : b < 32) : a ||| b < 32 := Nat.or_lt_two_pow (n := 5) ha hb
theorem or_one {a : Nat} {p : Int} (ha : a < 32) (hp : 0 ≤ p ∧ p ≤ 4) : bitsI .or (a : Int) (IntKind.i64.wrap (1 * 2 ^ (min p.toNat 64))) = ((a ||| 2 ^ p.toNat : Nat) : Int) := by
  have h := Nat.pow_le_pow_right (n := 2) (by decide) (show p.toNat ≤ 4 by omega)
  rw [shl_one (by omega)]
  generalize 2 ^ p.toNat = q at h ⊢
  rw [bits_or (by omega) (by omega), Int.toNat_natCast, Int.toNat_natCast]
theorem GoodW.src_lt {P : Int} {A : List Int} {N S : List (List Int)} {f : List Int} {part : Int} {w : List Int} (g : GoodW P A N S f part w) : ∀ k, k ≤ w.length → (srcS A f part w k).1 < 32
  | 0, _ => by
    have h1 := g.part
    have h2 := g.m.parts
    show 2 ^ part.toNat < 2 ^ 5
    exact Nat.pow_lt_pow_right (by decide) (by omega)
  | k + 1, h => by
    have ih := g.src_lt k (by omega)
    have ha := g.act (i := w.length - 1 - k) (by omega)
    rw [srcS]
    split
    · exact or_lt32 ih (Nat.pow_lt_pow_right (a := 2) (n := 5) (by decide) (by omega))
    · exact ih
/-- A list of which the first i and the last i have changed places. -/
def revN (l : List Int) (i : Nat) : List Int := (List.range l.length).map fun q => if q < i ∨ l.length ≤ q + i then l.getD (l.length - 1 - q) 0 else l.getD q 0
theorem revN_len (l : List Int) (i : Nat) : (revN l i).length = l.length := by simp [revN]
theorem revN_get {l : List Int} {i q : Nat} (hq : q < l.length) : (revN l i).getD q 0 = if q < i ∨ l.length ≤ q + i then l.getD (l.length - 1 - q) 0 else l.getD q 0 := by simp [revN, hq]
theorem revN_zero (l : List Int) : revN l 0 = l := by
  refine eq_of_getD (revN_len l 0) (d := 0) fun q hq => ?_
  rw [revN_len] at hq
  rw [revN_get hq, if_neg (by omega)]
theorem getD_set' {l : List Int} {i q : Nat} {x : Int} (hi : i < l.length) : (l.set i x).getD q 0 = if q = i then x else l.getD q 0 := by
  simp only [List.getD]
  by_cases h : q = i
  · subst h; simp [hi]
  · rw [List.getElem?_set_ne (by omega), if_neg h]
theorem revN_step {l : List Int} {i : Nat} (h : i < l.length - 1 - i) : ((revN l i).set i ((revN l i).getD (l.length - 1 - i) 0)).set (l.length - 1 - i) ((revN l i).getD i 0) = revN l (i + 1) := by
  refine eq_of_getD (by simp [revN_len]) (d := 0) fun q hq => ?_
  simp only [List.length_set, revN_len] at hq
  rw [getD_set' (by simp [revN_len]; omega), getD_set' (by simp [revN_len]; omega), revN_get (i := i) (q := i) (by omega), revN_get (i := i) (q := l.length - 1 - i) (by omega), revN_get (i := i + 1) hq, revN_get (i := i) hq, if_neg (show ¬(i < i ∨ l.length ≤ i + i) by omega), if_neg (show ¬(l.length - 1 - i < i ∨ l.length ≤ l.length - 1 - i + i) by omega)]
  by_cases h1 : q = l.length - 1 - i
  · subst h1
    rw [if_pos rfl, if_pos (.inr (by omega)), show l.length - 1 - (l.length - 1 - i) = i by omega]
  · rw [if_neg h1]
    by_cases h2 : q = i
    · subst h2
      rw [if_pos rfl, if_pos (.inl (by omega))]
    · rw [if_neg h2]
      by_cases h3 : q < i ∨ l.length ≤ q + i
      · rw [if_pos h3, if_pos (by omega)]
      · rw [if_neg h3, if_neg (by omega)]
theorem revN_end {l : List Int} {i : Nat} (h : ¬i < l.length - 1 - i) : revN l i = l.reverse := by
  refine eq_of_getD (by simp [revN_len]) (d := 0) fun q hq => ?_
  rw [revN_len] at hq
  rw [revN_get hq]
  have e : l.reverse.getD q 0 = l.getD (l.length - 1 - q) 0 := by
    simp only [List.getD, List.getElem?_reverse hq]
  rw [e]
  split
  · rfl
  · rw [show l.length - 1 - q = q by omega]
def srcN (A f : List Int) (part : Int) (w : List Int) : Nat := (srcS A f part w w.length).1
def betL (A f : List Int) (part : Int) (w : List Int) : List Int := (srcS A f part w w.length).2.reverse
def betV (P : Int) (A : List Int) (N S : List (List Int)) (f : List Int) (part : Int) (w : List Int) : List Int := if bothE P A N S f part w = 0 then betL A f part w else []
def srcV (P : Int) (A : List Int) (N S : List (List Int)) (f : List Int) (part : Int) (w : List Int) : Int := if bothE P A N S f part w = 0 then ((srcN A f part w : Nat) : Int) else 0

theorem policy_fn (P : Int) (A : List Int) (N S : List (List Int)) (f : List Int) : LiftsD Tryd.prog 30 [.agg [.i P, .sl .int A, .sl (.sl .int) N, .sl (.sl .int) S], .sl .int f] (.er 81 (polE P A N S f)) := by
  refine LiftsD.of_body 38 [.tmp 4] Tryd.func30 rfl Tryd.ntmps30 (by kernel_rfl) rfl rfl fun w0 X0 => ?_
  refine AWPD.seq fun K1 hK1 => ?_
  -- region 0
  refine AWPD.keep [0, 1] rfl ?_
  refine AWPD.region tabOK rfl ?_
  refine hK1 _ _ ?_
  clear hK1
  refine AWPD.seq fun K2 hK2 => ?_
  refine AWPD.seq fun K3 hK3 => ?_
  -- region 1
  refine AWPD.keep [1, 2] rfl ?_
  refine AWPD.region tabOK rfl ?_
  repeat refine And.intro (by first | exact fun h => h | exact fun _ => rfl | (intro h; rw [h]; rfl) | omega | (intros; (try dsimp only [Ty.T, Ty.size]); (try simp only [castL_self, Int.toNat_natCast, Int.toNat_zero, Int.toNat_one, true_and, List.length_append, List.length_set, List.length_drop, List.length_take, List.length_replicate, List.length_cons, List.length_nil, Nat.zero_add, Nat.mul_one]); omega) | decide | (intros; simp_all; done) | (intros; simp_all; omega)) ?_
  refine Exists.intro _ (Exists.intro _ (And.intro (StepD.call (check_fn _ _ _ _) rfl rfl rfl) (And.intro rfl (And.intro trivial ?_))))
  refine hK3 _ _ ?_
  clear hK3
  refine AWPD.seq fun K4 hK4 => ?_
  -- region 2
  refine AWPD.keep [1, 2, 5] rfl ?_
  refine AWPD.region tabOK rfl ?_
  refine hK4 _ _ ?_
  clear hK4
  first | refine AWPD.condP rfl (fun h0 => ?_) (fun h0 => ?_) | refine AWPD.condN rfl (fun h0 => ?_) (fun h0 => ?_) | refine AWPD.condAP rfl (fun h0 => ?_) (fun h0 => ?_) | refine AWPD.condOP rfl (fun h0 => ?_) (fun h0 => ?_) | refine AWPD.condONN rfl (fun h0 => ?_) (fun h0 => ?_) | refine AWPD.condOPN rfl (fun h0 => ?_) (fun h0 => ?_) | refine AWPD.condA rfl (fun h0 => ?_) (fun h0 => ?_) | refine AWPD.condO rfl (fun h0 => ?_) (fun h0 => ?_) | refine AWPD.cond rfl (fun h0 => ?_) (fun h0 => ?_)
  · try dsimp only [Ty.T] at h0
    try simp only [castL_self] at h0
    try simp only [Int.toNat_natCast] at h0
    try simp only [Int.toNat_zero] at h0
    refine AWPD.seq fun K5 hK5 => ?_
    -- region 3
    refine AWPD.keep [5] rfl ?_
    refine AWPD.region tabOK rfl ?_
    refine hK5 _ _ ?_
    clear hK5
    refine AWPD.ret (And.intro (.inl rfl) ?_)
    -- result 0
    refine RetD.one ?_
    exact fitE rfl (by unfold polE; rw [if_pos (by simpa using h0)])
  · try dsimp only [Ty.T] at h0
    try simp only [castL_self] at h0
    try simp only [Int.toNat_natCast] at h0
    try simp only [Int.toNat_zero] at h0
    have he : machE P A N S = 0 := by simpa using h0
    have g := mach_good he
    have gp := g.parts
    refine AWPD.skip ?_
    refine hK2 _ _ ?_
    clear hK2
    refine AWPD.seq fun K6 hK6 => ?_
    refine AWPD.seq fun K7 hK7 => ?_
    -- region 4
    refine AWPD.keep [1, 2] rfl ?_
    refine AWPD.region tabOK rfl ?_
    repeat refine And.intro (by first | exact fun h => h | exact fun _ => rfl | (intro h; rw [h]; rfl) | omega | (intros; (try dsimp only [Ty.T, Ty.size]); (try simp only [castL_self, Int.toNat_natCast, Int.toNat_zero, Int.toNat_one, true_and, List.length_append, List.length_set, List.length_drop, List.length_take, List.length_replicate, List.length_cons, List.length_nil, Nat.zero_add, Nat.mul_one]); omega) | decide | (intros; simp_all; done) | (intros; simp_all; omega)) ?_
    refine hK7 _ _ ?_
    clear hK7
    first | refine AWPD.condP rfl (fun h1 => ?_) (fun h1 => ?_) | refine AWPD.condN rfl (fun h1 => ?_) (fun h1 => ?_) | refine AWPD.condAP rfl (fun h1 => ?_) (fun h1 => ?_) | refine AWPD.condOP rfl (fun h1 => ?_) (fun h1 => ?_) | refine AWPD.condONN rfl (fun h1 => ?_) (fun h1 => ?_) | refine AWPD.condOPN rfl (fun h1 => ?_) (fun h1 => ?_) | refine AWPD.condA rfl (fun h1 => ?_) (fun h1 => ?_) | refine AWPD.condO rfl (fun h1 => ?_) (fun h1 => ?_) | refine AWPD.cond rfl (fun h1 => ?_) (fun h1 => ?_)
    · try dsimp only [Ty.T] at h1
      try simp only [castL_self] at h1
      try simp only [Int.toNat_natCast] at h1
      try simp only [Int.toNat_zero] at h1
      refine AWPD.seq fun K8 hK8 => ?_
      -- region 5
      refine AWPD.keep [] rfl ?_
      refine AWPD.region tabOK rfl ?_
      repeat refine And.intro (by first | exact fun h => h | exact fun _ => rfl | (intro h; rw [h]; rfl) | omega | (intros; (try dsimp only [Ty.T, Ty.size]); (try simp only [castL_self, Int.toNat_natCast, Int.toNat_zero, Int.toNat_one, true_and, List.length_append, List.length_set, List.length_drop, List.length_take, List.length_replicate, List.length_cons, List.length_nil, Nat.zero_add, Nat.mul_one]); omega) | decide | (intros; simp_all; done) | (intros; simp_all; omega)) ?_
      refine hK8 _ _ ?_
      clear hK8
      refine AWPD.ret (And.intro (.inl rfl) ?_)
      -- result 1
      refine RetD.one ?_
      exact fitE rfl (by unfold polE; rw [if_neg (fun h => h he), if_pos (by simpa using h1)])
    · try dsimp only [Ty.T] at h1
      try simp only [castL_self] at h1
      try simp only [Int.toNat_natCast] at h1
      try simp only [Int.toNat_zero] at h1
      have hl : (f.length : Int) = P := by simpa using h1
      have hm := polE_st he hl
      refine AWPD.skip ?_
      refine hK6 _ _ ?_
      clear hK6
      refine AWPD.seq fun K9 hK9 => ?_
      refine AWPD.seq fun K10 hK10 => ?_
      -- region 6
      refine AWPD.keep [1, 2] rfl ?_
      refine AWPD.region tabOK rfl ?_
      refine hK10 _ _ ?_
      clear hK10
      refine AWPD.block ?_
      -- LOOP 0 live [2, 19, 20, 21] changed [21]
      refine AWPD.loopK (σ := Nat) [2, 19, 20] (fun i base => (21, .i (i : Int)) :: base) (fun _ => []) (fun n i => n + i = f.length ∧ ∀ q, q < i → polSt P f q = 0) (f.length) 0 [] rfl rfl (⟨by omega, by intro q hq; omega⟩) (by decide) trivial (by repeat' first | exact True.intro | exact rfl | exact ⟨rfl, rfl⟩ | refine And.intro ?_ ?_) fun n0 i hI0 => ?_
      obtain ⟨hn0, hv0⟩ := hI0
      refine AWPD.seq fun K11 hK11 => ?_
      -- region 7
      refine AWPD.keep [2, 19, 20, 21] rfl ?_
      refine AWPD.region tabOK rfl ?_
      refine hK11 _ _ ?_
      clear hK11
      refine AWPD.seq fun K12 hK12 => ?_
      first | refine AWPD.condP rfl (fun h2 => ?_) (fun h2 => ?_) | refine AWPD.condN rfl (fun h2 => ?_) (fun h2 => ?_) | refine AWPD.condAP rfl (fun h2 => ?_) (fun h2 => ?_) | refine AWPD.condOP rfl (fun h2 => ?_) (fun h2 => ?_) | refine AWPD.condONN rfl (fun h2 => ?_) (fun h2 => ?_) | refine AWPD.condOPN rfl (fun h2 => ?_) (fun h2 => ?_) | refine AWPD.condA rfl (fun h2 => ?_) (fun h2 => ?_) | refine AWPD.condO rfl (fun h2 => ?_) (fun h2 => ?_) | refine AWPD.cond rfl (fun h2 => ?_) (fun h2 => ?_)
      · try dsimp only [Ty.T] at h2
        try simp only [castL_self] at h2
        try simp only [Int.toNat_natCast] at h2
        try simp only [Int.toNat_zero] at h2
        refine AWPD.skip ?_
        refine hK12 _ _ ?_
        clear hK12
        refine AWPD.seq fun K13 hK13 => ?_
        refine AWPD.block ?_
        refine AWPD.seq fun K14 hK14 => ?_
        -- region 8
        refine AWPD.keep [2, 19, 20, 21] rfl ?_
        refine AWPD.region tabOK rfl ?_
        repeat refine And.intro (by first | exact fun h => h | exact fun _ => rfl | (intro h; rw [h]; rfl) | omega | (intros; (try dsimp only [Ty.T, Ty.size]); (try simp only [castL_self, Int.toNat_natCast, Int.toNat_zero, Int.toNat_one, true_and, List.length_append, List.length_set, List.length_drop, List.length_take, List.length_replicate, List.length_cons, List.length_nil, Nat.zero_add, Nat.mul_one]); omega) | decide | (intros; simp_all; done) | (intros; simp_all; omega)) ?_
        refine hK14 _ _ ?_
        clear hK14
        refine AWPD.seq fun K15 hK15 => ?_
        refine AWPD.seq fun K16 hK16 => ?_
        -- region 9
        refine AWPD.keep [2, 6, 7, 19, 20, 21] rfl ?_
        refine AWPD.region tabOK rfl ?_
        repeat refine And.intro (by first | exact fun h => h | exact fun _ => rfl | (intro h; rw [h]; rfl) | omega | (intros; (try dsimp only [Ty.T, Ty.size]); (try simp only [castL_self, Int.toNat_natCast, Int.toNat_zero, Int.toNat_one, true_and, List.length_append, List.length_set, List.length_drop, List.length_take, List.length_replicate, List.length_cons, List.length_nil, Nat.zero_add, Nat.mul_one]); omega) | decide | (intros; simp_all; done) | (intros; simp_all; omega)) ?_
        refine Exists.intro _ (Exists.intro _ (And.intro (StepD.call (mask_fn (f.getD i 0) P (by omega)) rfl rfl rfl) (And.intro rfl (And.intro trivial ?_))))
        refine hK16 _ _ ?_
        clear hK16
        first | refine AWPD.cond rfl (fun h3 => ?_) (fun h3 => ?_)
        · try dsimp only [Ty.T] at h3
          try simp only [castL_self] at h3
          try simp only [Int.toNat_natCast] at h3
          try simp only [Int.toNat_zero] at h3
          have h3 : ¬maskB (f.getD i 0) P = true := by simpa using h3
          refine AWPD.seq fun K17 hK17 => ?_
          -- region 10
          refine AWPD.keep [] rfl ?_
          refine AWPD.region tabOK rfl ?_
          repeat refine And.intro (by first | exact fun h => h | exact fun _ => rfl | (intro h; rw [h]; rfl) | omega | (intros; (try dsimp only [Ty.T, Ty.size]); (try simp only [castL_self, Int.toNat_natCast, Int.toNat_zero, Int.toNat_one, true_and, List.length_append, List.length_set, List.length_drop, List.length_take, List.length_replicate, List.length_cons, List.length_nil, Nat.zero_add, Nat.mul_one]); omega) | decide | (intros; simp_all; done) | (intros; simp_all; omega)) ?_
          refine hK17 _ _ ?_
          clear hK17
          refine AWPD.ret (And.intro (.inl rfl) ?_)
          -- result 2
          refine RetD.one ?_
          have he1 : polSt P f i = 1 := by unfold polSt; rw [if_pos h3]
          exact fitE rfl (by rw [hm, fE_stop hv0 (by rw [he1]; decide) (by omega), he1])
        · try dsimp only [Ty.T] at h3
          try simp only [castL_self] at h3
          try simp only [Int.toNat_natCast] at h3
          try simp only [Int.toNat_zero] at h3
          have h3 : maskB (f.getD i 0) P = true := by simpa using h3
          have hin := mask_le h3 (by omega)
          refine AWPD.skip ?_
          refine hK15 _ _ ?_
          clear hK15
          refine AWPD.seq fun K18 hK18 => ?_
          -- region 11
          refine AWPD.keep [2, 6, 7, 19, 20, 21] rfl ?_
          refine AWPD.region tabOK rfl ?_
          refine Exists.intro _ (Exists.intro _ (And.intro (StepD.call (has_fn (f.getD i 0) (i : Int) (by omega) (by omega)) rfl rfl rfl) (And.intro rfl (And.intro trivial ?_))))
          refine hK18 _ _ ?_
          clear hK18
          first | refine AWPD.cond rfl (fun h4 => ?_) (fun h4 => ?_)
          · try dsimp only [Ty.T] at h4
            try simp only [castL_self] at h4
            try simp only [Int.toNat_natCast] at h4
            try simp only [Int.toNat_zero] at h4
            have h4 : ¬(f.getD i 0).toNat.testBit i = true := by simpa using h4
            refine AWPD.seq fun K19 hK19 => ?_
            -- region 12
            refine AWPD.keep [] rfl ?_
            refine AWPD.region tabOK rfl ?_
            repeat refine And.intro (by first | exact fun h => h | exact fun _ => rfl | (intro h; rw [h]; rfl) | omega | (intros; (try dsimp only [Ty.T, Ty.size]); (try simp only [castL_self, Int.toNat_natCast, Int.toNat_zero, Int.toNat_one, true_and, List.length_append, List.length_set, List.length_drop, List.length_take, List.length_replicate, List.length_cons, List.length_nil, Nat.zero_add, Nat.mul_one]); omega) | decide | (intros; simp_all; done) | (intros; simp_all; omega)) ?_
            refine hK19 _ _ ?_
            clear hK19
            refine AWPD.ret (And.intro (.inl rfl) ?_)
            -- result 3
            refine RetD.one ?_
            have he1 : polSt P f i = 6 := by unfold polSt; rw [if_neg (fun h => h h3), if_neg h4]
            exact fitE rfl (by rw [hm, fE_stop hv0 (by rw [he1]; decide) (by omega), he1])
          · try dsimp only [Ty.T] at h4
            try simp only [castL_self] at h4
            try simp only [Int.toNat_natCast] at h4
            try simp only [Int.toNat_zero] at h4
            have h4 : (f.getD i 0).toNat.testBit i = true := by simpa using h4
            refine AWPD.skip ?_
            refine hK13 _ _ ?_
            clear hK13
            -- region 13
            refine AWPD.keep [2, 19, 20, 21] rfl ?_
            refine AWPD.region tabOK rfl ?_
            repeat refine And.intro (by first | exact fun h => h | exact fun _ => rfl | (intro h; rw [h]; rfl) | omega | (intros; (try dsimp only [Ty.T, Ty.size]); (try simp only [castL_self, Int.toNat_natCast, Int.toNat_zero, Int.toNat_one, true_and, List.length_append, List.length_set, List.length_drop, List.length_take, List.length_replicate, List.length_cons, List.length_nil, Nat.zero_add, Nat.mul_one]); omega) | decide | (intros; simp_all; done) | (intros; simp_all; omega)) ?_
            refine ⟨n0 - 1, i + 1, [], by omega, ⟨by omega, fun q hq => by
                rcases Nat.lt_or_ge q i with h | h
                · exact hv0 q h
                · rw [show q = i by omega]; unfold polSt; rw [if_neg (fun h => h h3), if_pos h4]⟩, ⟨by decide, rfl⟩, trivial, ?_⟩
            repeat' first | exact True.intro | exact rfl | exact ⟨rfl, rfl⟩ | refine And.intro ?_ ?_
      · try dsimp only [Ty.T] at h2
        try simp only [castL_self] at h2
        try simp only [Int.toNat_natCast] at h2
        try simp only [Int.toNat_zero] at h2
        refine AWPD.exit ?_
        refine hK9 _ _ ?_
        clear hK9
        refine AWPD.seq fun K20 hK20 => ?_
        -- region 14
        refine AWPD.keep [] rfl ?_
        refine AWPD.region tabOK rfl ?_
        refine hK20 _ _ ?_
        clear hK20
        refine AWPD.ret (And.intro (.inl rfl) ?_)
        -- result 4
        refine RetD.one ?_
        exact fitE rfl (by rw [hm, fE_zero fun s hs => hv0 s (by omega)])
theorem pcheck_fn (P : Int) (A : List Int) (N S : List (List Int)) (f : List Int) (part : Int) : LiftsD Tryd.prog 62 [.agg [.i P, .sl .int A, .sl (.sl .int) N, .sl (.sl .int) S], .sl .int f, .i part] (.er 81 (chkE P A N S f part)) := by
  refine LiftsD.of_body 21 [.tmp 6] Tryd.func62 rfl Tryd.ntmps62 (by kernel_rfl) rfl rfl fun w0 X0 => ?_
  refine AWPD.seq fun K1 hK1 => ?_
  -- region 0
  refine AWPD.keep [0, 1, 2] rfl ?_
  refine AWPD.region tabOK rfl ?_
  refine hK1 _ _ ?_
  clear hK1
  refine AWPD.seq fun K2 hK2 => ?_
  refine AWPD.seq fun K3 hK3 => ?_
  -- region 1
  refine AWPD.keep [1, 2, 3] rfl ?_
  refine AWPD.region tabOK rfl ?_
  repeat refine And.intro (by first | exact fun h => h | exact fun _ => rfl | (intro h; rw [h]; rfl) | omega | (intros; (try dsimp only [Ty.T, Ty.size]); (try simp only [castL_self, Int.toNat_natCast, Int.toNat_zero, Int.toNat_one, true_and, List.length_append, List.length_set, List.length_drop, List.length_take, List.length_replicate, List.length_cons, List.length_nil, Nat.zero_add, Nat.mul_one]); omega) | decide | (intros; simp_all; done) | (intros; simp_all; omega)) ?_
  refine Exists.intro _ (Exists.intro _ (And.intro (StepD.call (policy_fn _ _ _ _ _) rfl rfl rfl) (And.intro rfl (And.intro trivial ?_))))
  refine hK3 _ _ ?_
  clear hK3
  refine AWPD.seq fun K4 hK4 => ?_
  -- region 2
  refine AWPD.keep [2, 3, 7] rfl ?_
  refine AWPD.region tabOK rfl ?_
  refine hK4 _ _ ?_
  clear hK4
  first | refine AWPD.condP rfl (fun h0 => ?_) (fun h0 => ?_) | refine AWPD.condN rfl (fun h0 => ?_) (fun h0 => ?_) | refine AWPD.condAP rfl (fun h0 => ?_) (fun h0 => ?_) | refine AWPD.condOP rfl (fun h0 => ?_) (fun h0 => ?_) | refine AWPD.condONN rfl (fun h0 => ?_) (fun h0 => ?_) | refine AWPD.condOPN rfl (fun h0 => ?_) (fun h0 => ?_) | refine AWPD.condA rfl (fun h0 => ?_) (fun h0 => ?_) | refine AWPD.condO rfl (fun h0 => ?_) (fun h0 => ?_) | refine AWPD.cond rfl (fun h0 => ?_) (fun h0 => ?_)
  · try dsimp only [Ty.T] at h0
    try simp only [castL_self] at h0
    try simp only [Int.toNat_natCast] at h0
    try simp only [Int.toNat_zero] at h0
    refine AWPD.seq fun K5 hK5 => ?_
    -- region 3
    refine AWPD.keep [7] rfl ?_
    refine AWPD.region tabOK rfl ?_
    refine hK5 _ _ ?_
    clear hK5
    refine AWPD.ret (And.intro (.inl rfl) ?_)
    -- result 0
    refine RetD.one ?_
    exact fitE rfl (by unfold chkE; rw [if_pos (by simpa using h0)])
  · try dsimp only [Ty.T] at h0
    try simp only [castL_self] at h0
    try simp only [Int.toNat_natCast] at h0
    try simp only [Int.toNat_zero] at h0
    have he : polE P A N S f = 0 := by simpa using h0
    have g := mach_good (pol_ok he).1
    have gp := g.parts
    refine AWPD.skip ?_
    refine hK2 _ _ ?_
    clear hK2
    refine AWPD.seq fun K6 hK6 => ?_
    refine AWPD.seq fun K7 hK7 => ?_
    -- region 4
    refine AWPD.keep [2, 3] rfl ?_
    refine AWPD.region tabOK rfl ?_
    repeat refine And.intro (by first | exact fun h => h | exact fun _ => rfl | (intro h; rw [h]; rfl) | omega | (intros; (try dsimp only [Ty.T, Ty.size]); (try simp only [castL_self, Int.toNat_natCast, Int.toNat_zero, Int.toNat_one, true_and, List.length_append, List.length_set, List.length_drop, List.length_take, List.length_replicate, List.length_cons, List.length_nil, Nat.zero_add, Nat.mul_one]); omega) | decide | (intros; simp_all; done) | (intros; simp_all; omega)) ?_
    refine Exists.intro _ (Exists.intro _ (And.intro (StepD.call (within_fn _ _ _) rfl rfl rfl) (And.intro rfl (And.intro trivial ?_))))
    refine hK7 _ _ ?_
    clear hK7
    first | refine AWPD.cond rfl (fun h1 => ?_) (fun h1 => ?_)
    · try dsimp only [Ty.T] at h1
      try simp only [castL_self] at h1
      try simp only [Int.toNat_natCast] at h1
      try simp only [Int.toNat_zero] at h1
      have h1 : ¬(0 ≤ part ∧ part ≤ P - 1) := by simp at h1; omega
      refine AWPD.seq fun K8 hK8 => ?_
      -- region 5
      refine AWPD.keep [] rfl ?_
      refine AWPD.region tabOK rfl ?_
      repeat refine And.intro (by first | exact fun h => h | exact fun _ => rfl | (intro h; rw [h]; rfl) | omega | (intros; (try dsimp only [Ty.T, Ty.size]); (try simp only [castL_self, Int.toNat_natCast, Int.toNat_zero, Int.toNat_one, true_and, List.length_append, List.length_set, List.length_drop, List.length_take, List.length_replicate, List.length_cons, List.length_nil, Nat.zero_add, Nat.mul_one]); omega) | decide | (intros; simp_all; done) | (intros; simp_all; omega)) ?_
      refine hK8 _ _ ?_
      clear hK8
      refine AWPD.ret (And.intro (.inl rfl) ?_)
      -- result 1
      refine RetD.one ?_
      exact fitE rfl (by unfold chkE; rw [if_neg (fun h => h he), if_neg h1])
    · try dsimp only [Ty.T] at h1
      try simp only [castL_self] at h1
      try simp only [Int.toNat_natCast] at h1
      try simp only [Int.toNat_zero] at h1
      have h1 : 0 ≤ part ∧ part ≤ P - 1 := by simpa using h1
      refine AWPD.skip ?_
      refine hK6 _ _ ?_
      clear hK6
      refine AWPD.seq fun K9 hK9 => ?_
      -- region 6
      refine AWPD.keep [] rfl ?_
      refine AWPD.region tabOK rfl ?_
      refine hK9 _ _ ?_
      clear hK9
      refine AWPD.ret (And.intro (.inl rfl) ?_)
      -- result 2
      refine RetD.one ?_
      exact fitE rfl (by unfold chkE; rw [if_neg (fun h => h he), if_pos h1])
theorem bcheck_fn (P : Int) (A : List Int) (N S : List (List Int)) (f : List Int) (part : Int) : LiftsD Tryd.prog 86 [.agg [.i P, .sl .int A, .sl (.sl .int) N, .sl (.sl .int) S], .sl .int f, .i part] (.er 81 (chkE P A N S f part)) := by
  refine LiftsD.of_body 21 [.tmp 6] Tryd.func86 rfl Tryd.ntmps86 (by kernel_rfl) rfl rfl fun w0 X0 => ?_
  refine AWPD.seq fun K1 hK1 => ?_
  -- region 0
  refine AWPD.keep [0, 1, 2] rfl ?_
  refine AWPD.region tabOK rfl ?_
  refine hK1 _ _ ?_
  clear hK1
  refine AWPD.seq fun K2 hK2 => ?_
  refine AWPD.seq fun K3 hK3 => ?_
  -- region 1
  refine AWPD.keep [1, 2, 3] rfl ?_
  refine AWPD.region tabOK rfl ?_
  repeat refine And.intro (by first | exact fun h => h | exact fun _ => rfl | (intro h; rw [h]; rfl) | omega | (intros; (try dsimp only [Ty.T, Ty.size]); (try simp only [castL_self, Int.toNat_natCast, Int.toNat_zero, Int.toNat_one, true_and, List.length_append, List.length_set, List.length_drop, List.length_take, List.length_replicate, List.length_cons, List.length_nil, Nat.zero_add, Nat.mul_one]); omega) | decide | (intros; simp_all; done) | (intros; simp_all; omega)) ?_
  refine Exists.intro _ (Exists.intro _ (And.intro (StepD.call (policy_fn _ _ _ _ _) rfl rfl rfl) (And.intro rfl (And.intro trivial ?_))))
  refine hK3 _ _ ?_
  clear hK3
  refine AWPD.seq fun K4 hK4 => ?_
  -- region 2
  refine AWPD.keep [2, 3, 7] rfl ?_
  refine AWPD.region tabOK rfl ?_
  refine hK4 _ _ ?_
  clear hK4
  first | refine AWPD.condP rfl (fun h0 => ?_) (fun h0 => ?_) | refine AWPD.condN rfl (fun h0 => ?_) (fun h0 => ?_) | refine AWPD.condAP rfl (fun h0 => ?_) (fun h0 => ?_) | refine AWPD.condOP rfl (fun h0 => ?_) (fun h0 => ?_) | refine AWPD.condONN rfl (fun h0 => ?_) (fun h0 => ?_) | refine AWPD.condOPN rfl (fun h0 => ?_) (fun h0 => ?_) | refine AWPD.condA rfl (fun h0 => ?_) (fun h0 => ?_) | refine AWPD.condO rfl (fun h0 => ?_) (fun h0 => ?_) | refine AWPD.cond rfl (fun h0 => ?_) (fun h0 => ?_)
  · try dsimp only [Ty.T] at h0
    try simp only [castL_self] at h0
    try simp only [Int.toNat_natCast] at h0
    try simp only [Int.toNat_zero] at h0
    refine AWPD.seq fun K5 hK5 => ?_
    -- region 3
    refine AWPD.keep [7] rfl ?_
    refine AWPD.region tabOK rfl ?_
    refine hK5 _ _ ?_
    clear hK5
    refine AWPD.ret (And.intro (.inl rfl) ?_)
    -- result 0
    refine RetD.one ?_
    exact fitE rfl (by unfold chkE; rw [if_pos (by simpa using h0)])
  · try dsimp only [Ty.T] at h0
    try simp only [castL_self] at h0
    try simp only [Int.toNat_natCast] at h0
    try simp only [Int.toNat_zero] at h0
    have he : polE P A N S f = 0 := by simpa using h0
    have g := mach_good (pol_ok he).1
    have gp := g.parts
    refine AWPD.skip ?_
    refine hK2 _ _ ?_
    clear hK2
    refine AWPD.seq fun K6 hK6 => ?_
    refine AWPD.seq fun K7 hK7 => ?_
    -- region 4
    refine AWPD.keep [2, 3] rfl ?_
    refine AWPD.region tabOK rfl ?_
    repeat refine And.intro (by first | exact fun h => h | exact fun _ => rfl | (intro h; rw [h]; rfl) | omega | (intros; (try dsimp only [Ty.T, Ty.size]); (try simp only [castL_self, Int.toNat_natCast, Int.toNat_zero, Int.toNat_one, true_and, List.length_append, List.length_set, List.length_drop, List.length_take, List.length_replicate, List.length_cons, List.length_nil, Nat.zero_add, Nat.mul_one]); omega) | decide | (intros; simp_all; done) | (intros; simp_all; omega)) ?_
    refine Exists.intro _ (Exists.intro _ (And.intro (StepD.call (within_fn _ _ _) rfl rfl rfl) (And.intro rfl (And.intro trivial ?_))))
    refine hK7 _ _ ?_
    clear hK7
    first | refine AWPD.cond rfl (fun h1 => ?_) (fun h1 => ?_)
    · try dsimp only [Ty.T] at h1
      try simp only [castL_self] at h1
      try simp only [Int.toNat_natCast] at h1
      try simp only [Int.toNat_zero] at h1
      have h1 : ¬(0 ≤ part ∧ part ≤ P - 1) := by simp at h1; omega
      refine AWPD.seq fun K8 hK8 => ?_
      -- region 5
      refine AWPD.keep [] rfl ?_
      refine AWPD.region tabOK rfl ?_
      repeat refine And.intro (by first | exact fun h => h | exact fun _ => rfl | (intro h; rw [h]; rfl) | omega | (intros; (try dsimp only [Ty.T, Ty.size]); (try simp only [castL_self, Int.toNat_natCast, Int.toNat_zero, Int.toNat_one, true_and, List.length_append, List.length_set, List.length_drop, List.length_take, List.length_replicate, List.length_cons, List.length_nil, Nat.zero_add, Nat.mul_one]); omega) | decide | (intros; simp_all; done) | (intros; simp_all; omega)) ?_
      refine hK8 _ _ ?_
      clear hK8
      refine AWPD.ret (And.intro (.inl rfl) ?_)
      -- result 1
      refine RetD.one ?_
      exact fitE rfl (by unfold chkE; rw [if_neg (fun h => h he), if_neg h1])
    · try dsimp only [Ty.T] at h1
      try simp only [castL_self] at h1
      try simp only [Int.toNat_natCast] at h1
      try simp only [Int.toNat_zero] at h1
      have h1 : 0 ≤ part ∧ part ≤ P - 1 := by simpa using h1
      refine AWPD.skip ?_
      refine hK6 _ _ ?_
      clear hK6
      refine AWPD.seq fun K9 hK9 => ?_
      -- region 6
      refine AWPD.keep [] rfl ?_
      refine AWPD.region tabOK rfl ?_
      refine hK9 _ _ ?_
      clear hK9
      refine AWPD.ret (And.intro (.inl rfl) ?_)
      -- result 2
      refine RetD.one ?_
      exact fitE rfl (by unfold chkE; rw [if_neg (fun h => h he), if_pos h1])
theorem bboth_fn (P : Int) (A : List Int) (N S : List (List Int)) (f : List Int) (part : Int) (w : List Int) : LiftsD Tryd.prog 80 [.agg [.i P, .sl .int A, .sl (.sl .int) N, .sl (.sl .int) S], .sl .int f, .i part, .sl .int w] (.er 81 (bothE P A N S f part w)) := by
  refine LiftsD.of_body 20 [.tmp 8] Tryd.func80 rfl Tryd.ntmps80 (by kernel_rfl) rfl rfl fun w0 X0 => ?_
  refine AWPD.seq fun K1 hK1 => ?_
  -- region 0
  refine AWPD.keep [0, 1, 2, 3] rfl ?_
  refine AWPD.region tabOK rfl ?_
  refine hK1 _ _ ?_
  clear hK1
  refine AWPD.seq fun K2 hK2 => ?_
  refine AWPD.seq fun K3 hK3 => ?_
  -- region 1
  refine AWPD.keep [1, 2, 3, 4] rfl ?_
  refine AWPD.region tabOK rfl ?_
  repeat refine And.intro (by first | exact fun h => h | exact fun _ => rfl | (intro h; rw [h]; rfl) | omega | (intros; (try dsimp only [Ty.T, Ty.size]); (try simp only [castL_self, Int.toNat_natCast, Int.toNat_zero, Int.toNat_one, true_and, List.length_append, List.length_set, List.length_drop, List.length_take, List.length_replicate, List.length_cons, List.length_nil, Nat.zero_add, Nat.mul_one]); omega) | decide | (intros; simp_all; done) | (intros; simp_all; omega)) ?_
  refine Exists.intro _ (Exists.intro _ (And.intro (StepD.call (bcheck_fn _ _ _ _ _ _) rfl rfl rfl) (And.intro rfl (And.intro trivial ?_))))
  refine hK3 _ _ ?_
  clear hK3
  refine AWPD.seq fun K4 hK4 => ?_
  -- region 2
  refine AWPD.keep [3, 4, 9] rfl ?_
  refine AWPD.region tabOK rfl ?_
  refine hK4 _ _ ?_
  clear hK4
  first | refine AWPD.condP rfl (fun h0 => ?_) (fun h0 => ?_) | refine AWPD.condN rfl (fun h0 => ?_) (fun h0 => ?_) | refine AWPD.condAP rfl (fun h0 => ?_) (fun h0 => ?_) | refine AWPD.condOP rfl (fun h0 => ?_) (fun h0 => ?_) | refine AWPD.condONN rfl (fun h0 => ?_) (fun h0 => ?_) | refine AWPD.condOPN rfl (fun h0 => ?_) (fun h0 => ?_) | refine AWPD.condA rfl (fun h0 => ?_) (fun h0 => ?_) | refine AWPD.condO rfl (fun h0 => ?_) (fun h0 => ?_) | refine AWPD.cond rfl (fun h0 => ?_) (fun h0 => ?_)
  · try dsimp only [Ty.T] at h0
    try simp only [castL_self] at h0
    try simp only [Int.toNat_natCast] at h0
    try simp only [Int.toNat_zero] at h0
    refine AWPD.seq fun K5 hK5 => ?_
    -- region 3
    refine AWPD.keep [9] rfl ?_
    refine AWPD.region tabOK rfl ?_
    refine hK5 _ _ ?_
    clear hK5
    refine AWPD.ret (And.intro (.inl rfl) ?_)
    -- result 0
    refine RetD.one ?_
    exact fitE rfl (by unfold bothE; rw [if_pos (by simpa using h0)])
  · try dsimp only [Ty.T] at h0
    try simp only [castL_self] at h0
    try simp only [Int.toNat_natCast] at h0
    try simp only [Int.toNat_zero] at h0
    refine AWPD.skip ?_
    refine hK2 _ _ ?_
    clear hK2
    refine AWPD.seq fun K6 hK6 => ?_
    -- region 4
    refine AWPD.keep [3, 4] rfl ?_
    refine AWPD.region tabOK rfl ?_
    repeat refine And.intro (by first | exact fun h => h | exact fun _ => rfl | (intro h; rw [h]; rfl) | omega | (intros; (try dsimp only [Ty.T, Ty.size]); (try simp only [castL_self, Int.toNat_natCast, Int.toNat_zero, Int.toNat_one, true_and, List.length_append, List.length_set, List.length_drop, List.length_take, List.length_replicate, List.length_cons, List.length_nil, Nat.zero_add, Nat.mul_one]); omega) | decide | (intros; simp_all; done) | (intros; simp_all; omega)) ?_
    refine Exists.intro _ (Exists.intro _ (And.intro (StepD.call (word_fn _ _ _ _ _) rfl rfl rfl) (And.intro rfl (And.intro trivial ?_))))
    refine hK6 _ _ ?_
    clear hK6
    refine AWPD.ret (And.intro (.inl rfl) ?_)
    -- result 1
    refine RetD.one ?_
    exact fitE rfl (by unfold bothE; rw [if_neg h0])
theorem sources_fn (P : Int) (A : List Int) (N S : List (List Int)) (f : List Int) (part : Int) (w : List Int) (g : GoodW P A N S f part w) : LiftsD Tryd.prog 81 [.agg [.i P, .sl .int A, .sl (.sl .int) N, .sl (.sl .int) S], .sl .int f, .i part, .sl .int w] (.tup [.i ((srcN A f part w : Nat) : Int), .sl .int (betL A f part w)]) := by
  have gp := g.part
  have gP := g.m.parts
  have gw := g.few
  refine LiftsD.of_body 82 [.tmp 8, .tmp 9] Tryd.func81 rfl Tryd.ntmps81 (by kernel_rfl) rfl rfl fun w0 X0 => ?_
  refine AWPD.seq fun K1 hK1 => ?_
  -- region 0
  refine AWPD.keep [0, 1, 2, 3] rfl ?_
  refine AWPD.region tabOK rfl ?_
  refine hK1 _ _ ?_
  clear hK1
  refine AWPD.seq fun K2 hK2 => ?_
  -- region 1
  refine AWPD.keep [1, 2, 3, 4] rfl ?_
  refine AWPD.region tabOK rfl ?_
  repeat refine And.intro (by first | exact fun h => h | exact fun _ => rfl | (intro h; rw [h]; rfl) | omega | (intros; (try dsimp only [Ty.T, Ty.size]); (try simp only [castL_self, Int.toNat_natCast, Int.toNat_zero, Int.toNat_one, true_and, List.length_append, List.length_set, List.length_drop, List.length_take, List.length_replicate, List.length_cons, List.length_nil, Nat.zero_add, Nat.mul_one]); omega) | decide | (intros; simp_all; done) | (intros; simp_all; omega)) ?_
  refine hK2 _ _ ?_
  clear hK2
  refine AWPD.seq fun K3 hK3 => ?_
  -- region 2
  refine AWPD.keep [1, 3, 4, 10] rfl ?_
  refine AWPD.region tabOK rfl ?_
  refine hK3 _ _ ?_
  clear hK3
  refine AWPD.seq fun K4 hK4 => ?_
  refine AWPD.seq fun K5 hK5 => ?_
  -- region 3
  refine AWPD.keep [1, 3, 4, 10, 11] rfl ?_
  refine AWPD.region tabOK rfl ?_
  repeat refine And.intro (by first | exact fun h => h | exact fun _ => rfl | (intro h; rw [h]; rfl) | omega | (intros; (try dsimp only [Ty.T, Ty.size]); (try simp only [castL_self, Int.toNat_natCast, Int.toNat_zero, Int.toNat_one, true_and, List.length_append, List.length_set, List.length_drop, List.length_take, List.length_replicate, List.length_cons, List.length_nil, Nat.zero_add, Nat.mul_one]); omega) | decide | (intros; simp_all; done) | (intros; simp_all; omega)) ?_
  refine hK5 _ _ ?_
  clear hK5
  refine AWPD.block ?_
  -- LOOP 0 live [1, 3, 4, 10, 11, 12] changed [10, 11, 12]
  refine AWPD.nilRow 11 3 .int rfl (by decide) ?_
  refine AWPD.loopK (σ := Nat) [1, 3, 4] (fun k base => (12, .i ((w.length : Int) - 1 - (k : Int))) :: (10, .i (((srcS A f part w k).1 : Nat) : Int)) :: (11, .ob 0) :: base) (fun k => [.row 3 .int (srcS A f part w k).2]) (fun n k => n + k = w.length) (w.length) 0 [0] rfl rfl (by omega) (by decide) ⟨⟨rfl, rfl, rfl⟩, trivial⟩ (by repeat' first | (show IntKind.i64.wrap (1 * 2 ^ (min part.toNat 64)) = ((2 ^ part.toNat : Nat) : Int); exact shl_one (by omega)) | (show (w.length : Int) - 1 = (w.length : Int) - 1 - ((0 : Nat) : Int); omega) | exact True.intro | exact rfl | exact ⟨rfl, rfl⟩ | refine And.intro ?_ ?_) fun n0 k hI0 => ?_
  have hn0 := hI0
  have hlen := srcS_len A f part w k
  refine AWPD.seq fun K6 hK6 => ?_
  refine AWPD.seq fun K7 hK7 => ?_
  -- region 4
  refine AWPD.keep [1, 3, 4, 10, 11, 12] rfl ?_
  refine AWPD.region tabOK rfl ?_
  refine hK7 _ _ ?_
  clear hK7
  first | refine AWPD.condP rfl (fun h0 => ?_) (fun h0 => ?_) | refine AWPD.condN rfl (fun h0 => ?_) (fun h0 => ?_) | refine AWPD.condAP rfl (fun h0 => ?_) (fun h0 => ?_) | refine AWPD.condOP rfl (fun h0 => ?_) (fun h0 => ?_) | refine AWPD.condONN rfl (fun h0 => ?_) (fun h0 => ?_) | refine AWPD.condOPN rfl (fun h0 => ?_) (fun h0 => ?_) | refine AWPD.condA rfl (fun h0 => ?_) (fun h0 => ?_) | refine AWPD.condO rfl (fun h0 => ?_) (fun h0 => ?_) | refine AWPD.cond rfl (fun h0 => ?_) (fun h0 => ?_)
  · try dsimp only [Ty.T] at h0
    try simp only [castL_self] at h0
    try simp only [Int.toNat_natCast] at h0
    try simp only [Int.toNat_zero] at h0
    refine AWPD.skip ?_
    refine hK6 _ _ ?_
    clear hK6
    refine AWPD.seq fun K8 hK8 => ?_
    refine AWPD.block ?_
    refine AWPD.seq fun K9 hK9 => ?_
    -- region 6
    have ha := g.act (i := ((w.length : Int) - 1 - (k : Int)).toNat) (by omega)
    have hix : ((w.length : Int) - 1 - (k : Int)).toNat = w.length - 1 - k := by omega
    have hsl := g.src_lt k (by omega)
    refine AWPD.keep [1, 3, 4, 10, 11, 12] rfl ?_
    refine AWPD.draw tabOK [] rfl (by kernel_rfl) ?_
    repeat refine And.intro (by first | exact fun h => h | exact fun _ => rfl | (intro h; rw [h]; rfl) | omega | (intros; (try dsimp only [Ty.T, Ty.size]); (try simp only [castL_self, Int.toNat_natCast, Int.toNat_zero, Int.toNat_one, true_and, List.length_append, List.length_set, List.length_drop, List.length_take, List.length_replicate, List.length_cons, List.length_nil, Nat.zero_add, Nat.mul_one]); omega) | decide | (intros; simp_all; done) | (intros; simp_all; omega)) ?_
    refine hK9 _ _ ?_
    clear hK9
    first | refine AWPD.condP rfl (fun h1 => ?_) (fun h1 => ?_) | refine AWPD.condN rfl (fun h1 => ?_) (fun h1 => ?_) | refine AWPD.condAP rfl (fun h1 => ?_) (fun h1 => ?_) | refine AWPD.condOP rfl (fun h1 => ?_) (fun h1 => ?_) | refine AWPD.condONN rfl (fun h1 => ?_) (fun h1 => ?_) | refine AWPD.condOPN rfl (fun h1 => ?_) (fun h1 => ?_) | refine AWPD.condA rfl (fun h1 => ?_) (fun h1 => ?_) | refine AWPD.condO rfl (fun h1 => ?_) (fun h1 => ?_) | refine AWPD.cond rfl (fun h1 => ?_) (fun h1 => ?_)
    · try dsimp only [Ty.T] at h1
      try simp only [castL_self] at h1
      try simp only [Int.toNat_natCast] at h1
      try simp only [Int.toNat_zero] at h1
      have hc1 : (f.getD (A.getD (w.getD (w.length - 1 - k) 0).toNat 0).toNat 0).toNat &&& (srcS A f part w k).1 ≠ 0 := by
        have ha2 := ha
        rw [hix] at h1 ha2
        rw [bits_and (by omega) (by omega)] at h1
        intro e
        exact h1 (by rw [Int.toNat_natCast, e]; rfl)
      refine AWPD.seq fun K10 hK10 => ?_
      -- region 7
      refine AWPD.keep [1, 3, 4, 10, 11, 12] rfl ?_
      refine AWPD.draw tabOK [] rfl (by kernel_rfl) ?_
      repeat refine And.intro (by first | exact fun h => h | exact fun _ => rfl | (intro h; rw [h]; rfl) | omega | (intros; (try dsimp only [Ty.T, Ty.size]); (try simp only [castL_self, Int.toNat_natCast, Int.toNat_zero, Int.toNat_one, true_and, List.length_append, List.length_set, List.length_drop, List.length_take, List.length_replicate, List.length_cons, List.length_nil, Nat.zero_add, Nat.mul_one]); omega) | decide | (intros; simp_all; done) | (intros; simp_all; omega)) ?_
      refine hK10 _ _ ?_
      clear hK10
      -- region 8
      refine AWPD.keep [1, 3, 4, 10, 11, 12] rfl ?_
      refine AWPD.region tabOK rfl ?_
      repeat refine And.intro (by first | exact fun h => h | exact fun _ => rfl | (intro h; rw [h]; rfl) | omega | (intros; (try dsimp only [Ty.T, Ty.size]); (try simp only [castL_self, Int.toNat_natCast, Int.toNat_zero, Int.toNat_one, true_and, List.length_append, List.length_set, List.length_drop, List.length_take, List.length_replicate, List.length_cons, List.length_nil, Nat.zero_add, Nat.mul_one]); omega) | decide | (intros; simp_all; done) | (intros; simp_all; omega)) ?_
      refine hK8 _ _ ?_
      clear hK8
      -- region 5
      refine AWPD.keep [1, 3, 4, 10, 11, 12] rfl ?_
      refine AWPD.region tabOK rfl ?_
      repeat refine And.intro (by first | exact fun h => h | exact fun _ => rfl | (intro h; rw [h]; rfl) | omega | (intros; (try dsimp only [Ty.T, Ty.size]); (try simp only [castL_self, Int.toNat_natCast, Int.toNat_zero, Int.toNat_one, true_and, List.length_append, List.length_set, List.length_drop, List.length_take, List.length_replicate, List.length_cons, List.length_nil, Nat.zero_add, Nat.mul_one]); omega) | decide | (intros; simp_all; done) | (intros; simp_all; omega)) ?_
      refine ⟨n0 - 1, k + 1, [1], by omega, by omega, ⟨by decide, rfl⟩, ⟨⟨rfl, rfl, by rw [srcS_yes hc1, hix]; rfl⟩, trivial⟩, ?_⟩
      repeat' first | (show (w.length : Int) - 1 - (k : Int) - 1 = (w.length : Int) - 1 - ((k + 1 : Nat) : Int); omega) | (show (((srcS A f part w k).1 : Nat) : Int) = (((srcS A f part w (k + 1)).1 : Nat) : Int); rw [srcS_no hc1]) | (show bitsI .or (((srcS A f part w k).1 : Nat) : Int) (IntKind.i64.wrap (1 * 2 ^ (min (A.getD (w.getD ((w.length : Int) - 1 - (k : Int)).toNat 0).toNat 0).toNat 64))) = (((srcS A f part w (k + 1)).1 : Nat) : Int); rw [srcS_yes hc1, hix]; have ha2 := ha; rw [hix] at ha2; exact or_one (by omega) (by omega)) | exact True.intro | exact rfl | exact ⟨rfl, rfl⟩ | refine And.intro ?_ ?_
    · try dsimp only [Ty.T] at h1
      try simp only [castL_self] at h1
      try simp only [Int.toNat_natCast] at h1
      try simp only [Int.toNat_zero] at h1
      have hc1 : ¬((f.getD (A.getD (w.getD (w.length - 1 - k) 0).toNat 0).toNat 0).toNat &&& (srcS A f part w k).1 ≠ 0) := by
        have ha2 := ha
        rw [hix] at h1 ha2
        rw [bits_and (by omega) (by omega), Int.toNat_natCast] at h1
        intro e
        exact h1 (fun x => e (by omega))
      refine AWPD.skip ?_
      refine hK8 _ _ ?_
      clear hK8
      -- region 5
      refine AWPD.keep [1, 3, 4, 10, 11, 12] rfl ?_
      refine AWPD.region tabOK rfl ?_
      repeat refine And.intro (by first | exact fun h => h | exact fun _ => rfl | (intro h; rw [h]; rfl) | omega | (intros; (try dsimp only [Ty.T, Ty.size]); (try simp only [castL_self, Int.toNat_natCast, Int.toNat_zero, Int.toNat_one, true_and, List.length_append, List.length_set, List.length_drop, List.length_take, List.length_replicate, List.length_cons, List.length_nil, Nat.zero_add, Nat.mul_one]); omega) | decide | (intros; simp_all; done) | (intros; simp_all; omega)) ?_
      refine ⟨n0 - 1, k + 1, [0], by omega, by omega, ⟨by decide, rfl⟩, ⟨⟨rfl, rfl, by rw [srcS_no hc1]; rfl⟩, trivial⟩, ?_⟩
      repeat' first | (show (w.length : Int) - 1 - (k : Int) - 1 = (w.length : Int) - 1 - ((k + 1 : Nat) : Int); omega) | (show (((srcS A f part w k).1 : Nat) : Int) = (((srcS A f part w (k + 1)).1 : Nat) : Int); rw [srcS_no hc1]) | (show bitsI .or (((srcS A f part w k).1 : Nat) : Int) (IntKind.i64.wrap (1 * 2 ^ (min (A.getD (w.getD ((w.length : Int) - 1 - (k : Int)).toNat 0).toNat 0).toNat 64))) = (((srcS A f part w (k + 1)).1 : Nat) : Int); rw [srcS_yes hc1, hix]; have ha2 := ha; rw [hix] at ha2; exact or_one (by omega) (by omega)) | exact True.intro | exact rfl | exact ⟨rfl, rfl⟩ | refine And.intro ?_ ?_
  · try dsimp only [Ty.T] at h0
    try simp only [castL_self] at h0
    try simp only [Int.toNat_natCast] at h0
    try simp only [Int.toNat_zero] at h0
    refine AWPD.exit ?_
    refine hK4 _ _ ?_
    clear hK4
    refine AWPD.seq fun K11 hK11 => ?_
    refine AWPD.seq fun K12 hK12 => ?_
    -- region 9
    refine AWPD.keep [10, 11] rfl ?_
    refine AWPD.region tabOK rfl ?_
    repeat refine And.intro (by first | exact fun h => h | exact fun _ => rfl | (intro h; rw [h]; rfl) | omega | (intros; (try dsimp only [Ty.T, Ty.size]); (try simp only [castL_self, Int.toNat_natCast, Int.toNat_zero, Int.toNat_one, true_and, List.length_append, List.length_set, List.length_drop, List.length_take, List.length_replicate, List.length_cons, List.length_nil, Nat.zero_add, Nat.mul_one]); omega) | decide | (intros; simp_all; done) | (intros; simp_all; omega)) ?_
    refine hK12 _ _ ?_
    clear hK12
    refine AWPD.block ?_
    -- LOOP 1 live [10, 11, 13, 14] changed [13, 14]
    have hlast : k = w.length := by omega
    subst hlast
    refine AWPD.loopK (σ := Nat) [10] (fun j base => (13, .i (j : Int)) :: (14, .i (((srcS A f part w w.length).2.length : Int) - 1 - (j : Int))) :: (11, .ob 0) :: base) (fun j => [.row 3 .int (revN (srcS A f part w w.length).2 j)]) (fun n j => n + j = (srcS A f part w w.length).2.length) ((srcS A f part w w.length).2.length) 0 [0] rfl rfl (by omega) (by decide) ⟨⟨rfl, rfl, by rw [revN_zero]; rfl⟩, trivial⟩ (by repeat' first | (show ((srcS A f part w w.length).2.length : Int) - 1 = ((srcS A f part w w.length).2.length : Int) - 1 - ((0 : Nat) : Int); omega) | exact True.intro | exact rfl | exact ⟨rfl, rfl⟩ | refine And.intro ?_ ?_) fun n1 j hI1 => ?_
    have hn1 := hI1
    refine AWPD.seq fun K13 hK13 => ?_
    refine AWPD.seq fun K14 hK14 => ?_
    -- region 10
    refine AWPD.keep [10, 11, 13, 14] rfl ?_
    refine AWPD.region tabOK rfl ?_
    refine hK14 _ _ ?_
    clear hK14
    first | refine AWPD.condP rfl (fun h2 => ?_) (fun h2 => ?_) | refine AWPD.condN rfl (fun h2 => ?_) (fun h2 => ?_) | refine AWPD.condAP rfl (fun h2 => ?_) (fun h2 => ?_) | refine AWPD.condOP rfl (fun h2 => ?_) (fun h2 => ?_) | refine AWPD.condONN rfl (fun h2 => ?_) (fun h2 => ?_) | refine AWPD.condOPN rfl (fun h2 => ?_) (fun h2 => ?_) | refine AWPD.condA rfl (fun h2 => ?_) (fun h2 => ?_) | refine AWPD.condO rfl (fun h2 => ?_) (fun h2 => ?_) | refine AWPD.cond rfl (fun h2 => ?_) (fun h2 => ?_)
    · try dsimp only [Ty.T] at h2
      try simp only [castL_self] at h2
      try simp only [Int.toNat_natCast] at h2
      try simp only [Int.toNat_zero] at h2
      refine AWPD.skip ?_
      refine hK13 _ _ ?_
      clear hK13
      refine AWPD.seq fun K15 hK15 => ?_
      refine AWPD.block ?_
      -- region 12
      have hrl := revN_len (srcS A f part w w.length).2 j
      have hjx : (((srcS A f part w w.length).2.length : Int) - 1 - (j : Int)).toNat = (srcS A f part w w.length).2.length - 1 - j := by omega
      refine AWPD.keep [10, 11, 13, 14] rfl ?_
      refine AWPD.draw tabOK [13, 15] rfl (by kernel_rfl) ?_
      repeat refine And.intro (by first | exact fun h => h | exact fun _ => rfl | (intro h; rw [h]; rfl) | omega | (intros; (try dsimp only [Ty.T, Ty.size]); (try simp only [castL_self, Int.toNat_natCast, Int.toNat_zero, Int.toNat_one, true_and, List.length_append, List.length_set, List.length_drop, List.length_take, List.length_replicate, List.length_cons, List.length_nil, Nat.zero_add, Nat.mul_one]); omega) | decide | (intros; simp_all; done) | (intros; simp_all; omega)) ?_
      refine hK15 _ _ ?_
      clear hK15
      -- region 11
      refine AWPD.keep [10, 11, 13, 14] rfl ?_
      refine AWPD.region tabOK rfl ?_
      repeat refine And.intro (by first | exact fun h => h | exact fun _ => rfl | (intro h; rw [h]; rfl) | omega | (intros; (try dsimp only [Ty.T, Ty.size]); (try simp only [castL_self, Int.toNat_natCast, Int.toNat_zero, Int.toNat_one, true_and, List.length_append, List.length_set, List.length_drop, List.length_take, List.length_replicate, List.length_cons, List.length_nil, Nat.zero_add, Nat.mul_one]); omega) | decide | (intros; simp_all; done) | (intros; simp_all; omega)) ?_
      refine ⟨n1 - 1, j + 1, [0], by omega, by omega, ⟨by decide, rfl⟩, ⟨⟨rfl, rfl, by show ((revN (srcS A f part w w.length).2 j).set j ((revN (srcS A f part w w.length).2 j).getD (((srcS A f part w w.length).2.length : Int) - 1 - (j : Int)).toNat 0)).set (((srcS A f part w w.length).2.length : Int) - 1 - (j : Int)).toNat ((revN (srcS A f part w w.length).2 j).getD j 0) = _; rw [hjx]; exact revN_step (by omega)⟩, trivial⟩, ?_⟩
      repeat' first | (show ((srcS A f part w w.length).2.length : Int) - 1 - (j : Int) - 1 = ((srcS A f part w w.length).2.length : Int) - 1 - ((j + 1 : Nat) : Int); omega) | exact True.intro | exact rfl | exact ⟨rfl, rfl⟩ | refine And.intro ?_ ?_
    · try dsimp only [Ty.T] at h2
      try simp only [castL_self] at h2
      try simp only [Int.toNat_natCast] at h2
      try simp only [Int.toNat_zero] at h2
      refine AWPD.exit ?_
      refine hK11 _ _ ?_
      clear hK11
      refine AWPD.seq fun K16 hK16 => ?_
      -- region 13
      refine AWPD.keep [10, 11] rfl ?_
      refine AWPD.region tabOK rfl ?_
      refine hK16 _ _ ?_
      clear hK16
      refine AWPD.ret (And.intro (.inl rfl) ?_)
      -- result 0
      exact ⟨fitI rfl rfl, fitR rfl rfl (by rw [revN_end (by omega)]; rfl)⟩
end Go.Proofs.YtndoigkmdcgjfaaDoor
