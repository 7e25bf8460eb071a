/-
  WALK of the law TopSplit. Laid by a program of mine out of the operations, with the loops and results told by hand.
-/
import Derived.Test.YtmeacgkhabnjlaaQwAw
import Derived.Test.YtmeacgkhabnjlaaQwSpW
namespace Go.Proofs.Ytmeacgkhabnjlaa
open Go Go.Qw
set_option maxRecDepth 10000
set_option linter.unusedSimpArgs false
set_option linter.unusedVariables false
set_option linter.unusedSectionVars false

/-! ### How many bits are answered so -/
def cntP (p : Nat → Bool) : Nat → Nat
  | 0 => 0
  | k + 1 => cntP p k + (p k).toNat
theorem cntP_congr {p q : Nat → Bool} : ∀ m, (∀ x, x < m → p x = q x) → cntP p m = cntP q m
  | 0, _ => rfl
  | m + 1, h => by rw [cntP, cntP, cntP_congr m fun x hx => h x (by omega), h m (by omega)]
theorem cntP_sum {p q r : Nat → Bool} : ∀ m, (∀ x, x < m → (p x).toNat + (q x).toNat = (r x).toNat) → cntP p m + cntP q m = cntP r m
  | 0, _ => rfl
  | m + 1, h => by
    have ih := cntP_sum m fun x hx => h x (by omega)
    have h1 := h m (by omega)
    rw [cntP, cntP, cntP]
    omega
theorem cntP_zero {p : Nat → Bool} : ∀ m, (∀ x, x < m → p x = false) → cntP p m = 0
  | 0, _ => rfl
  | m + 1, h => by rw [cntP, cntP_zero m fun x hx => h x (by omega), h m (by omega)]; rfl
theorem cntP_le (p : Nat → Bool) : ∀ m, cntP p m ≤ m
  | 0 => Nat.le_refl _
  | m + 1 => by
    have := cntP_le p m
    rw [cntP]
    cases p m <;> simp <;> omega
theorem cntP_add (p : Nat → Bool) (a : Nat) : ∀ b, cntP p (a + b) = cntP p a + cntP (fun x => p (a + x)) b
  | 0 => rfl
  | b + 1 => by
    show cntP p (a + b + 1) = _
    rw [cntP, cntP_add p a b, cntP, Nat.add_assoc]
theorem pow_xor {x k : Nat} (h : x < 2 ^ k) : 2 ^ k + x = x ^^^ 2 ^ k := by
  have h1 := Nat.two_pow_add_eq_or_of_lt h 1
  rw [Nat.mul_one] at h1
  rw [h1]
  refine Nat.eq_of_testBit_eq fun i => ?_
  rw [Nat.testBit_or, Nat.testBit_xor, Nat.testBit_two_pow]
  by_cases hi : k = i
  · subst hi; rw [Nat.testBit_lt_two_pow h]; simp
  · rw [decide_eq_false hi]; simp
def eqB (B : Nat → Nat) (c : Nat → Bool) : Nat → Nat → Bool
  | 0, _ => true
  | k + 1, x => eqB B c k x && (decide (B k = 0) || parB (B k &&& x) == c k)
theorem eqB_iff {B : Nat → Nat} {c : Nat → Bool} {x : Nat} : ∀ {k}, eqB B c k x = true ↔ ∀ i, i < k → B i = 0 ∨ parB (B i &&& x) = c i
  | 0 => ⟨fun _ i hi => by omega, fun _ => rfl⟩
  | k + 1 => by
    rw [eqB, Bool.and_eq_true, eqB_iff (k := k), Bool.or_eq_true, decide_eq_true_eq, beq_iff_eq]
    constructor
    · rintro ⟨h1, h2⟩ i hi
      by_cases he : i = k
      · subst he; exact h2
      · exact h1 i (by omega)
    · exact fun h => ⟨fun i hi => h i (by omega), h k (by omega)⟩
theorem Ech.and_high {n : Nat} {B : Nat → Nat} (h : Ech n B) {i k : Nat} (hi : i < k) : B i &&& 2 ^ k = 0 := by
  by_cases h0 : B i = 0
  · rw [h0, Nat.zero_and]
  · refine Nat.eq_of_testBit_eq fun j => ?_
    rw [Nat.testBit_and, Nat.testBit_two_pow, Nat.zero_testBit]
    by_cases hj : k = j
    · subst hj
      rw [Nat.testBit_lt_two_pow (Nat.lt_of_lt_of_le (h.lt i h0) (Nat.pow_le_pow_right (by decide) (by omega)))]; rfl
    · rw [decide_eq_false hj]; simp
theorem Ech.eqB_high {n : Nat} {B : Nat → Nat} (h : Ech n B) (c : Nat → Bool) (x m : Nat) : ∀ k, k ≤ m → eqB B c k (x ^^^ 2 ^ m) = eqB B c k x
  | 0, _ => rfl
  | k + 1, hk => by
    rw [eqB, eqB, Ech.eqB_high h c x m k (by omega), Nat.and_xor_distrib_left, h.and_high (show k < m by omega), Nat.xor_zero]
theorem Ech.par_flip {n : Nat} {B : Nat → Nat} (h : Ech n B) {k : Nat} (h0 : B k ≠ 0) (x : Nat) : parB (B k &&& (x ^^^ 2 ^ k)) = !parB (B k &&& x) := by
  have e2 : B k &&& 2 ^ k = 2 ^ k := Nat.eq_of_testBit_eq fun i => by
    rw [Nat.testBit_and, Nat.testBit_two_pow]
    by_cases hi : k = i
    · subst hi; rw [h.top _ h0]; rfl
    · rw [decide_eq_false hi]; simp
  rw [Nat.and_xor_distrib_left, par_xor, e2, par_pow]
  cases parB (B k &&& x) <;> rfl
theorem Ech.count {n : Nat} {B : Nat → Nat} (h : Ech n B) (c : Nat → Bool) : ∀ k, cntP (eqB B c k) (2 ^ k) = 2 ^ (k - cntB B k)
  | 0 => rfl
  | k + 1 => by
    have ih := Ech.count h c k
    have hle := cnt_le B k
    have hs : cntP (eqB B c (k + 1)) (2 ^ (k + 1)) = cntP (eqB B c (k + 1)) (2 ^ k) + cntP (fun x => eqB B c (k + 1) (x ^^^ 2 ^ k)) (2 ^ k) := by
      rw [show 2 ^ (k + 1) = 2 ^ k + 2 ^ k by rw [Nat.pow_succ]; omega, cntP_add]
      congr 1
      exact cntP_congr _ fun x hx => by rw [pow_xor hx]
    rw [hs, cntB]
    by_cases h0 : B k = 0
    · have e1 : cntP (eqB B c (k + 1)) (2 ^ k) = cntP (eqB B c k) (2 ^ k) := cntP_congr _ fun x _ => by rw [eqB, h0]; simp
      have e2 : cntP (fun x => eqB B c (k + 1) (x ^^^ 2 ^ k)) (2 ^ k) = cntP (eqB B c k) (2 ^ k) := cntP_congr _ fun x _ => by rw [eqB, h0, h.eqB_high c x k k (Nat.le_refl _)]; simp
      rw [e1, e2, ih, if_pos h0, show k + 1 - (cntB B k + 0) = (k - cntB B k) + 1 by omega, Nat.pow_succ]
      omega
    · have e1 := cntP_sum (p := eqB B c (k + 1)) (q := fun x => eqB B c (k + 1) (x ^^^ 2 ^ k)) (r := eqB B c k) (2 ^ k) fun x _ => by
        show (eqB B c (k + 1) x).toNat + (eqB B c (k + 1) (x ^^^ 2 ^ k)).toNat = _
        rw [eqB, eqB, h.eqB_high c x k k (Nat.le_refl _), h.par_flip h0, decide_eq_false h0]
        cases eqB B c k x <;> cases parB (B k &&& x) <;> cases c k <;> rfl
      rw [e1, ih, if_neg h0, show k + 1 - (cntB B k + 1) = k - cntB B k by omega]
def sameA (asks : List Int) (b x : Nat) : Bool := decide (∀ j, j < asks.length → parB ((asks.getD j 0).toNat &&& x) = parB ((asks.getD j 0).toNat &&& b))
theorem bne_same {a b : Bool} : (a ^^ b) = false ↔ a = b := by cases a <;> cases b <;> decide
theorem GoodA.same_eq {n : Nat} {asks : List Int} (g : GoodA n asks) (b x : Nat) : sameA asks b x = eqB (ofV asks).1 (fun i => parB ((ofV asks).1 i &&& b)) n x := by
  have hb : Bas n (ofV asks) := g.bas asks.length (Nat.le_refl _)
  have hl := (par_lin x).add (par_lin b)
  rw [Bool.eq_iff_iff, eqB_iff]
  unfold sameA
  rw [decide_eq_true_eq]
  constructor
  · intro h i _
    refine .inr ?_
    exact bne_same.1 (ofS_lin hl (asks := asks) (fun j hj => bne_same.2 (h j hj)) asks.length (Nat.le_refl _) i)
  · intro h j hj
    refine bne_same.1 (ofS_asks g hl (fun i => ?_) hj)
    by_cases hi : i < n
    · rcases h i hi with h0 | h0
      · rw [h0]; exact hl.zero
      · exact bne_same.2 h0
    · rw [hb.ech.lim i (by omega)]; exact hl.zero
/-- As many as there is room for. -/
theorem GoodA.count {n : Nat} {asks : List Int} (g : GoodA n asks) (b : Nat) : cntP (sameA asks b) (2 ^ n) = 2 ^ (n - (ofV asks).2) := by
  have hb : Bas n (ofV asks) := g.bas asks.length (Nat.le_refl _)
  have h1 := hb.ech.cnt (12 - n)
  rw [show n + (12 - n) = 12 by have := g.1; omega] at h1
  rw [cntP_congr _ fun x _ => g.same_eq b x, hb.ech.count, hb.cnt, h1]
theorem par_bit {x i : Nat} : parB (2 ^ i &&& x) = x.testBit i := by
  cases h : x.testBit i with
  | false =>
    have : 2 ^ i &&& x = 0 := Nat.eq_of_testBit_eq fun j => by
      rw [Nat.testBit_and, Nat.testBit_two_pow, Nat.zero_testBit]
      by_cases hj : i = j
      · subst hj; rw [h]; simp
      · rw [decide_eq_false hj]; rfl
    rw [this, par_zero]
  | true =>
    have : 2 ^ i &&& x = 2 ^ i := Nat.eq_of_testBit_eq fun j => by
      rw [Nat.testBit_and, Nat.testBit_two_pow]
      by_cases hj : i = j
      · subst hj; rw [h]; simp
      · rw [decide_eq_false hj]; rfl
    rw [this, par_pow]
theorem same_app {asks : List Int} {b x i : Nat} : sameA (asks ++ [((2 ^ i : Nat) : Int)]) b x = (sameA asks b x && (x.testBit i == b.testBit i)) := by
  rw [Bool.eq_iff_iff, Bool.and_eq_true, beq_iff_eq]
  unfold sameA
  rw [decide_eq_true_eq, decide_eq_true_eq]
  have e : (asks ++ [((2 ^ i : Nat) : Int)]).getD asks.length 0 = ((2 ^ i : Nat) : Int) := by simp [List.getD]
  constructor
  · intro h
    refine ⟨fun j hj => ?_, ?_⟩
    · have := h j (by simp; omega)
      rwa [List.getD, List.getElem?_append_left hj] at this
    · have := h asks.length (by simp)
      rwa [e, Int.toNat_natCast, par_bit, par_bit] at this
  · rintro ⟨h1, h2⟩ j hj
    by_cases hlt : j < asks.length
    · rw [List.getD, List.getElem?_append_left hlt]; exact h1 j hlt
    · rw [List.length_append, List.length_singleton] at hj
      rw [show j = asks.length by omega, e, Int.toNat_natCast, par_bit, par_bit, h2]
theorem same_of {asks : List Int} {b b' x : Nat} (h : ∀ j, j < asks.length → parB ((asks.getD j 0).toNat &&& b) = parB ((asks.getD j 0).toNat &&& b')) : sameA asks b x = sameA asks b' x := by
  unfold sameA
  refine decide_eq_decide.2 ⟨fun hh j hj => (hh j hj).trans (h j hj), fun hh j hj => (hh j hj).trans (h j hj).symm⟩
/-- What is not told of a bit leaves both as likely. -/
theorem GoodA.half {n : Nat} {asks : List Int} (g : GoodA n asks) {i : Nat} (hi : i < n) (b : Nat) (hc : cutV (ofV asks).1 (2 ^ i) ≠ 0) : cntP (fun x => sameA asks b x && x.testBit i) (2 ^ n) = cntP (fun x => sameA asks b x && !x.testBit i) (2 ^ n) := by
  have hp : 2 ^ i < 2 ^ n := Nat.pow_lt_pow_right (by decide) hi
  obtain ⟨x0, h1, h2, h3⟩ := g.other hp hc
  rw [par_bit] at h2
  have g' : GoodA n (asks ++ [((2 ^ i : Nat) : Int)]) := ⟨g.1, fun j hj => by
    by_cases hlt : j < asks.length
    · rw [List.getD, List.getElem?_append_left hlt]; exact g.2 j hlt
    · rw [List.length_append, List.length_singleton] at hj
      rw [show j = asks.length by omega, show (asks ++ [((2 ^ i : Nat) : Int)]).getD asks.length 0 = ((2 ^ i : Nat) : Int) by simp [List.getD], Int.toNat_natCast]
      exact hp⟩
  have hx : ∀ j, j < asks.length → parB ((asks.getD j 0).toNat &&& (b ^^^ x0)) = parB ((asks.getD j 0).toNat &&& b) := fun j hj => by
    rw [Nat.and_xor_distrib_left, par_xor, h3 j hj]; cases parB ((asks.getD j 0).toNat &&& b) <;> rfl
  have hbit : (b ^^^ x0).testBit i = !b.testBit i := by rw [Nat.testBit_xor, h2]; cases b.testBit i <;> rfl
  have c1 := g'.count b
  have c2 := g'.count (b ^^^ x0)
  rw [cntP_congr _ fun x _ => same_app] at c1 c2
  rw [cntP_congr (q := fun x => sameA asks b x && (x.testBit i == !b.testBit i)) _ fun x _ => by rw [same_of hx, hbit]] at c2
  cases hb : b.testBit i with
  | true =>
    rw [hb] at c1 c2
    rw [cntP_congr (p := fun x => sameA asks b x && x.testBit i) (q := fun x => sameA asks b x && (x.testBit i == true)) _ fun x _ => by simp, c1,
      cntP_congr (p := fun x => sameA asks b x && !x.testBit i) (q := fun x => sameA asks b x && (x.testBit i == !true)) _ fun x _ => by simp, c2]
  | false =>
    rw [hb] at c1 c2
    rw [cntP_congr (p := fun x => sameA asks b x && x.testBit i) (q := fun x => sameA asks b x && (x.testBit i == !false)) _ fun x _ => by simp, c2,
      cntP_congr (p := fun x => sameA asks b x && !x.testBit i) (q := fun x => sameA asks b x && (x.testBit i == false)) _ fun x _ => by simp, c1]
/-- What is told of a bit leaves one. -/
theorem told_none {asks : List Int} {i b : Nat} (hc : cutV (ofV asks).1 (2 ^ i) = 0) (m : Nat) : cntP (fun x => sameA asks b x && x.testBit i) m = 0 ∨ cntP (fun x => sameA asks b x && !x.testBit i) m = 0 := by
  have h : ∀ x, sameA asks b x = true → x.testBit i = b.testBit i := fun x hx => by
    have := tells_same (asks := asks) (a := x) (b := b) (of_decide_eq_true hx) hc
    rwa [par_bit, par_bit] at this
  cases hb : b.testBit i with
  | true =>
    refine .inr (cntP_zero _ fun x _ => ?_)
    cases hx : sameA asks b x with
    | false => rfl
    | true => rw [h x hx, hb]; rfl
  | false =>
    refine .inl (cntP_zero _ fun x _ => ?_)
    cases hx : sameA asks b x with
    | false => rfl
    | true => rw [h x hx, hb]; rfl
theorem both_count (p q : Nat → Bool) (m : Nat) : cntP (fun x => p x && q x) m + cntP (fun x => p x && !q x) m = cntP p m :=
  cntP_sum m fun x _ => by cases p x <;> cases q x <;> rfl


theorem cntP_no {p : Nat → Bool} {x : Nat} (h : p x = false) : ((cntP p x : Nat) : Int) = ((cntP p (x + 1) : Nat) : Int) := by rw [cntP, h]; rfl
theorem cntP_yes {p : Nat → Bool} {x : Nat} (h : p x = true) : ((cntP p x : Nat) : Int) + 1 = ((cntP p (x + 1) : Nat) : Int) := by rw [cntP, h]; rfl
theorem sfact1 : dealL 2 1 [] 1 = [(1, 1)] := by decide +kernel
theorem sfact2 : dealE 2 1 [] 1 = 0 := by decide +kernel
theorem sfact3 : tellV 2 [3] 3 = true := by decide +kernel
theorem sfact4 : tellE 2 [3] 3 = 0 := by decide +kernel
theorem ans_same {z : Int} {asks : List Int} {bits : Int} {x : Nat} (hb : tellE z asks bits = 0) (hx : tellE z asks (x : Int) = 0) : ansV z asks (x : Int) = ansV z asks bits ↔ sameA asks bits.toNat x = true := by
  unfold ansV sameA
  rw [if_pos hb, if_pos hx, decide_eq_true_eq]
  constructor
  · intro h j hj
    have := ans_par h hj
    rwa [Int.toNat_natCast] at this
  · intro h
    unfold ansL
    refine List.map_congr_left fun j hj => ?_
    have h3 := h j (List.mem_range.1 hj)
    unfold odV
    rw [Int.toNat_natCast]
    exact congrArg Int.ofNat (par_eq.1 h3)

theorem topSplit_fn (z : Int) (asks : List Int) (bits k : Int) : LiftsD Try.prog 5 [.i z, .sl .int asks, .i bits, .i k] (.b true) := by
  refine LiftsD.of_body 150 [.tmp 8] Try.func5 rfl Try.ntmps5 (by kernel_rfl) rfl rfl fun w0 X0 => ?_
  refine AWPD.seq fun K1 hK1 => ?_
  -- region 0
  refine AWPD.keep [0, 1, 2, 3] rfl ?_
  refine AWPD.region tabOK rfl ?_
  refine hK1 _ _ ?_
  clear hK1
  refine AWPD.seq fun K2 hK2 => ?_
  -- region 1
  refine AWPD.keep [0, 1, 2, 3] rfl ?_
  refine AWPD.region tabOK rfl ?_
  refine Exists.intro _ (Exists.intro _ (And.intro (StepD.call (tells_fn _ _ _) rfl rfl rfl) (And.intro rfl (And.intro trivial ?_))))
  refine hK2 _ _ ?_
  clear hK2
  refine AWPD.seq fun K3 hK3 => ?_
  -- region 2
  refine AWPD.keep [0, 1, 2, 3, 9, 10] rfl ?_
  refine AWPD.region tabOK rfl ?_
  refine Exists.intro _ (Exists.intro _ (And.intro (StepD.call (by exact LiftsD.fit (deal_fn 2 1 [] 1) ⟨rfl, rfl, ⟨rfl, by decide⟩, rfl, trivial⟩) rfl rfl rfl) (And.intro rfl (And.intro trivial ?_))))
  refine hK3 _ _ ?_
  clear hK3
  refine AWPD.seq fun K4 hK4 => ?_
  refine AWPD.seq fun K5 hK5 => ?_
  -- region 3
  rw [sfact1, sfact2, sfact3, sfact4]
  refine AWPD.keep [0, 1, 2, 3, 9, 10, 11, 12] rfl ?_
  refine AWPD.region tabOK rfl ?_
  repeat refine And.intro (by first | exact fun h => h | exact fun _ => rfl | (intro h; rw [h]; rfl) | omega | (intros; (try dsimp only [Ty.T, Ty.size]); (try simp only [castL_self, Int.toNat_natCast, Int.toNat_zero, Int.toNat_one, true_and, List.length_append, List.length_set, List.length_drop, List.length_take, List.length_replicate, List.length_cons, List.length_nil, Nat.zero_add, Nat.mul_one]); omega) | decide | (intros; simp_all; done) | (intros; simp_all; omega)) ?_
  refine hK5 _ _ ?_
  clear hK5
  first | refine AWPD.cond rfl (fun h0 => ?_) (fun h0 => ?_)
  · try dsimp only [Ty.T] at h0
    try simp only [castL_self] at h0
    try simp only [Int.toNat_natCast] at h0
    try simp only [Int.toNat_zero] at h0
    exact absurd h0 (by decide)
  · try dsimp only [Ty.T] at h0
    try simp only [castL_self] at h0
    try simp only [Int.toNat_natCast] at h0
    try simp only [Int.toNat_zero] at h0
    refine AWPD.skip ?_
    refine hK4 _ _ ?_
    clear hK4
    refine AWPD.seq fun K6 hK6 => ?_
    refine AWPD.seq fun K7 hK7 => ?_
    -- region 5
    refine AWPD.keep [0, 1, 2, 3] rfl ?_
    refine AWPD.region tabOK rfl ?_
    repeat refine And.intro (by first | exact fun h => h | exact fun _ => rfl | (intro h; rw [h]; rfl) | omega | (intros; (try dsimp only [Ty.T, Ty.size]); (try simp only [castL_self, Int.toNat_natCast, Int.toNat_zero, Int.toNat_one, true_and, List.length_append, List.length_set, List.length_drop, List.length_take, List.length_replicate, List.length_cons, List.length_nil, Nat.zero_add, Nat.mul_one]); omega) | decide | (intros; simp_all; done) | (intros; simp_all; omega)) ?_
    refine hK7 _ _ ?_
    clear hK7
    first | refine AWPD.cond rfl (fun h1 => ?_) (fun h1 => ?_)
    · try dsimp only [Ty.T] at h1
      try simp only [castL_self] at h1
      try simp only [Int.toNat_natCast] at h1
      try simp only [Int.toNat_zero] at h1
      refine AWPD.seq fun K8 hK8 => ?_
      -- region 6
      refine AWPD.keep [] rfl ?_
      refine AWPD.region tabOK rfl ?_
      refine hK8 _ _ ?_
      clear hK8
      refine AWPD.ret (And.intro (.inl rfl) ?_)
      -- result 0
      refine RetD.one ?_
      exact fitB rfl rfl
    · try dsimp only [Ty.T] at h1
      try simp only [castL_self] at h1
      try simp only [Int.toNat_natCast] at h1
      try simp only [Int.toNat_zero] at h1
      have hc1 : 0 ≤ k ∧ k < z ∧ z ≤ 8 := by simp at h1; omega
      refine AWPD.skip ?_
      refine hK6 _ _ ?_
      clear hK6
      refine AWPD.seq fun K9 hK9 => ?_
      -- region 7
      refine AWPD.keep [0, 1, 2, 3] rfl ?_
      refine AWPD.region tabOK rfl ?_
      refine Exists.intro _ (Exists.intro _ (And.intro (StepD.call (pow2_fn _ (by omega)) rfl rfl rfl) (And.intro rfl (And.intro trivial ?_))))
      refine Exists.intro _ (Exists.intro _ (And.intro (StepD.call (tells_fn z asks ((powN k.toNat : Nat) : Int)) rfl rfl rfl) (And.intro rfl (And.intro trivial ?_))))
      refine hK9 _ _ ?_
      clear hK9
      refine AWPD.seq fun K10 hK10 => ?_
      -- region 8
      refine AWPD.keep [0, 1, 2, 3, 13, 14] rfl ?_
      refine AWPD.region tabOK rfl ?_
      refine Exists.intro _ (Exists.intro _ (And.intro (StepD.call (answers_fn _ _ _) rfl rfl rfl) (And.intro rfl (And.intro trivial ?_))))
      refine hK10 _ _ ?_
      clear hK10
      refine AWPD.seq fun K11 hK11 => ?_
      -- region 9
      refine AWPD.keep [0, 1, 3, 13, 14, 15, 16] rfl ?_
      refine AWPD.region tabOK rfl ?_
      refine Exists.intro _ (Exists.intro _ (And.intro (StepD.call (rank_fn _ _) rfl rfl rfl) (And.intro rfl (And.intro trivial ?_))))
      refine hK11 _ _ ?_
      clear hK11
      refine AWPD.seq fun K12 hK12 => ?_
      refine AWPD.seq fun K13 hK13 => ?_
      -- region 10
      refine AWPD.keep [0, 1, 3, 13, 14, 15, 16, 17, 18] rfl ?_
      refine AWPD.region tabOK rfl ?_
      repeat refine And.intro (by first | exact fun h => h | exact fun _ => rfl | (intro h; rw [h]; rfl) | omega | (intros; (try dsimp only [Ty.T, Ty.size]); (try simp only [castL_self, Int.toNat_natCast, Int.toNat_zero, Int.toNat_one, true_and, List.length_append, List.length_set, List.length_drop, List.length_take, List.length_replicate, List.length_cons, List.length_nil, Nat.zero_add, Nat.mul_one]); omega) | decide | (intros; simp_all; done) | (intros; simp_all; omega)) ?_
      refine hK13 _ _ ?_
      clear hK13
      first | refine AWPD.cond rfl (fun h2 => ?_) (fun h2 => ?_)
      · try dsimp only [Ty.T] at h2
        try simp only [castL_self] at h2
        try simp only [Int.toNat_natCast] at h2
        try simp only [Int.toNat_zero] at h2
        refine AWPD.seq fun K14 hK14 => ?_
        -- region 11
        refine AWPD.keep [] rfl ?_
        refine AWPD.region tabOK rfl ?_
        refine hK14 _ _ ?_
        clear hK14
        refine AWPD.ret (And.intro (.inl rfl) ?_)
        -- result 1
        refine RetD.one ?_
        exact fitB rfl rfl
      · try dsimp only [Ty.T] at h2
        try simp only [castL_self] at h2
        try simp only [Int.toNat_natCast] at h2
        try simp only [Int.toNat_zero] at h2
        have ht : tellE z asks ((powN k.toNat : Nat) : Int) = 0 ∧ tellE z asks bits = 0 ∧ askE z asks = 0 := by
          simp at h2; omega
        obtain ⟨ht1, ht2, he⟩ := ht
        have g := ask_ok he
        have gl := g.len
        have hin := rankV_in he
        have hrk := rankV_ok he
        have l1 := ansV_len z gl bits
        have i2 := tell_in ht2
        have hpz : powN z.toNat = 2 ^ z.toNat := rfl
        have hpp := pow12 (n := z.toNat) (by omega)
        have hc8 : tellV z asks ((powN k.toNat : Nat) : Int) = true ↔ cutV (ofV asks).1 (2 ^ k.toNat) = 0 := by
          unfold tellV
          rw [decide_eq_true ht1, Bool.true_and, decide_eq_true_eq, Int.toNat_natCast]
          exact Iff.rfl
        refine AWPD.skip ?_
        refine hK12 _ _ ?_
        clear hK12
        refine AWPD.seq fun K15 hK15 => ?_
        -- region 12
        refine AWPD.keep [0, 1, 3, 13, 15, 17] rfl ?_
        refine AWPD.region tabOK rfl ?_
        refine hK15 _ _ ?_
        clear hK15
        refine AWPD.seq fun K16 hK16 => ?_
        -- region 13
        refine AWPD.keep [0, 1, 3, 13, 15, 17, 19] rfl ?_
        refine AWPD.region tabOK rfl ?_
        refine hK16 _ _ ?_
        clear hK16
        refine AWPD.seq fun K17 hK17 => ?_
        refine AWPD.seq fun K18 hK18 => ?_
        -- region 14
        refine AWPD.keep [0, 1, 3, 13, 15, 17, 19, 20] rfl ?_
        refine AWPD.region tabOK rfl ?_
        refine hK18 _ _ ?_
        clear hK18
        refine AWPD.block ?_
        -- LOOP 0 live [0, 1, 3, 13, 15, 17, 19, 20, 21] changed [19, 20, 21]
        refine AWPD.loopK (σ := Nat) [0, 1, 3, 13, 15, 17] (fun x base => (19, .i (((cntP (fun y => sameA asks bits.toNat y && y.testBit k.toNat) x) : Nat) : Int)) :: (20, .i (((cntP (fun y => sameA asks bits.toNat y && !y.testBit k.toNat) x) : Nat) : Int)) :: (21, .i (x : Int)) :: base) (fun _ => []) (fun n x => n + x = 2 ^ z.toNat) (2 ^ z.toNat) 0 [] rfl rfl (by omega) (by decide) trivial (by repeat' first | exact True.intro | exact rfl | exact ⟨rfl, rfl⟩ | refine And.intro ?_ ?_) fun n0 x hI0 => ?_
        have hn0 := hI0
        have hw1 := cntP_le (fun y => sameA asks bits.toNat y && y.testBit k.toNat) x
        have hw2 := cntP_le (fun y => sameA asks bits.toNat y && !y.testBit k.toNat) x
        refine AWPD.seq fun K19 hK19 => ?_
        refine AWPD.seq fun K20 hK20 => ?_
        -- region 15
        refine AWPD.keep [0, 1, 3, 13, 15, 17, 19, 20, 21] rfl ?_
        refine AWPD.region tabOK rfl ?_
        refine Exists.intro _ (Exists.intro _ (And.intro (StepD.call (pow2_fn _ (by omega)) rfl rfl rfl) (And.intro rfl (And.intro trivial ?_))))
        refine hK20 _ _ ?_
        clear hK20
        first | refine AWPD.condP rfl (fun h3 => ?_) (fun h3 => ?_) | refine AWPD.condN rfl (fun h3 => ?_) (fun h3 => ?_) | refine AWPD.condAP rfl (fun h3 => ?_) (fun h3 => ?_) | refine AWPD.condOP rfl (fun h3 => ?_) (fun h3 => ?_) | refine AWPD.condONN rfl (fun h3 => ?_) (fun h3 => ?_) | refine AWPD.condOPN rfl (fun h3 => ?_) (fun h3 => ?_) | refine AWPD.condA rfl (fun h3 => ?_) (fun h3 => ?_) | refine AWPD.condO rfl (fun h3 => ?_) (fun h3 => ?_) | refine AWPD.cond rfl (fun h3 => ?_) (fun h3 => ?_)
        · try dsimp only [Ty.T] at h3
          try simp only [castL_self] at h3
          try simp only [Int.toNat_natCast] at h3
          try simp only [Int.toNat_zero] at h3
          have hxl : x < 2 ^ z.toNat := by omega
          have hmx : maskB (x : Int) z = true := decide_eq_true (by omega)
          have htx : tellE z asks (x : Int) = 0 := by unfold tellE; rw [if_pos he, if_pos hmx]
          have l2 := ansV_len z gl (x : Int)
          have hsm := ans_same ht2 htx
          refine AWPD.skip ?_
          refine hK19 _ _ ?_
          clear hK19
          refine AWPD.seq fun K21 hK21 => ?_
          refine AWPD.block ?_
          refine AWPD.seq fun K22 hK22 => ?_
          -- region 17
          refine AWPD.keep [0, 1, 3, 13, 15, 17, 19, 20, 21] rfl ?_
          refine AWPD.region tabOK rfl ?_
          refine Exists.intro _ (Exists.intro _ (And.intro (StepD.call (answers_fn _ _ _) rfl rfl rfl) (And.intro rfl (And.intro trivial ?_))))
          refine hK22 _ _ ?_
          clear hK22
          refine AWPD.seq fun K23 hK23 => ?_
          refine AWPD.seq fun K24 hK24 => ?_
          -- region 18
          refine AWPD.keep [0, 1, 3, 13, 15, 17, 19, 20, 21, 22, 23] rfl ?_
          refine AWPD.region tabOK rfl ?_
          refine hK24 _ _ ?_
          clear hK24
          first | refine AWPD.cond rfl (fun h4 => ?_) (fun h4 => ?_)
          · try dsimp only [Ty.T] at h4
            try simp only [castL_self] at h4
            try simp only [Int.toNat_natCast] at h4
            try simp only [Int.toNat_zero] at h4
            exact absurd htx (by simpa using h4)
          · try dsimp only [Ty.T] at h4
            try simp only [castL_self] at h4
            try simp only [Int.toNat_natCast] at h4
            try simp only [Int.toNat_zero] at h4
            refine AWPD.skip ?_
            refine hK23 _ _ ?_
            clear hK23
            refine AWPD.seq fun K25 hK25 => ?_
            refine AWPD.seq fun K26 hK26 => ?_
            -- region 20
            refine AWPD.keep [0, 1, 3, 13, 15, 17, 19, 20, 21, 22] rfl ?_
            refine AWPD.region tabOK rfl ?_
            refine Exists.intro _ (Exists.intro _ (And.intro (StepD.call (ints_fn _ _ (by omega)) rfl rfl rfl) (And.intro rfl (And.intro trivial ?_))))
            refine hK26 _ _ ?_
            clear hK26
            first | refine AWPD.cond rfl (fun h5 => ?_) (fun h5 => ?_)
            · try dsimp only [Ty.T] at h5
              try simp only [castL_self] at h5
              try simp only [Int.toNat_natCast] at h5
              try simp only [Int.toNat_zero] at h5
              have hsa : sameA asks bits.toNat x = false := by
                cases hh : sameA asks bits.toNat x with
                | false => rfl
                | true => rw [decide_eq_true (hsm.2 hh)] at h5; cases h5
              refine AWPD.exit ?_
              refine hK21 _ _ ?_
              clear hK21
              -- region 16
              refine AWPD.keep [0, 1, 3, 13, 15, 17, 19, 20, 21] rfl ?_
              refine AWPD.region tabOK rfl ?_
              repeat refine And.intro (by first | exact fun h => h | exact fun _ => rfl | (intro h; rw [h]; rfl) | omega | (intros; (try dsimp only [Ty.T, Ty.size]); (try simp only [castL_self, Int.toNat_natCast, Int.toNat_zero, Int.toNat_one, true_and, List.length_append, List.length_set, List.length_drop, List.length_take, List.length_replicate, List.length_cons, List.length_nil, Nat.zero_add, Nat.mul_one]); omega) | decide | (intros; simp_all; done) | (intros; simp_all; omega)) ?_
              refine ⟨n0 - 1, x + 1, [], by omega, by omega, ⟨by decide, rfl⟩, trivial, ?_⟩
              repeat' first | (refine cntP_no ?_; simp [hsa]; done) | (refine cntP_no ?_; simp [hsa, hbt]; done) | (refine cntP_yes ?_; simp [hsa, hbt]; done) | exact True.intro | exact rfl | exact ⟨rfl, rfl⟩ | refine And.intro ?_ ?_
            · try dsimp only [Ty.T] at h5
              try simp only [castL_self] at h5
              try simp only [Int.toNat_natCast] at h5
              try simp only [Int.toNat_zero] at h5
              have hsa : sameA asks bits.toNat x = true := hsm.1 (by simpa using h5)
              refine AWPD.skip ?_
              refine hK25 _ _ ?_
              clear hK25
              refine AWPD.seq fun K27 hK27 => ?_
              -- region 21
              refine AWPD.keep [0, 1, 3, 13, 15, 17, 19, 20, 21] rfl ?_
              refine AWPD.region tabOK rfl ?_
              refine Exists.intro _ (Exists.intro _ (And.intro (StepD.call (bit_fn _ _ (by omega) (by omega)) rfl rfl rfl) (And.intro rfl (And.intro trivial ?_))))
              refine hK27 _ _ ?_
              clear hK27
              first | refine AWPD.cond rfl (fun h6 => ?_) (fun h6 => ?_)
              · try dsimp only [Ty.T] at h6
                try simp only [castL_self] at h6
                try simp only [Int.toNat_natCast] at h6
                try simp only [Int.toNat_zero] at h6
                have hbt : x.testBit k.toNat = true := by simpa using h6
                -- region 22
                refine AWPD.keep [0, 1, 3, 13, 15, 17, 19, 20, 21] rfl ?_
                refine AWPD.region tabOK rfl ?_
                repeat refine And.intro (by first | exact fun h => h | exact fun _ => rfl | (intro h; rw [h]; rfl) | omega | (intros; (try dsimp only [Ty.T, Ty.size]); (try simp only [castL_self, Int.toNat_natCast, Int.toNat_zero, Int.toNat_one, true_and, List.length_append, List.length_set, List.length_drop, List.length_take, List.length_replicate, List.length_cons, List.length_nil, Nat.zero_add, Nat.mul_one]); omega) | decide | (intros; simp_all; done) | (intros; simp_all; omega)) ?_
                refine hK21 _ _ ?_
                clear hK21
                -- region 16
                refine AWPD.keep [0, 1, 3, 13, 15, 17, 19, 20, 21] rfl ?_
                refine AWPD.region tabOK rfl ?_
                repeat refine And.intro (by first | exact fun h => h | exact fun _ => rfl | (intro h; rw [h]; rfl) | omega | (intros; (try dsimp only [Ty.T, Ty.size]); (try simp only [castL_self, Int.toNat_natCast, Int.toNat_zero, Int.toNat_one, true_and, List.length_append, List.length_set, List.length_drop, List.length_take, List.length_replicate, List.length_cons, List.length_nil, Nat.zero_add, Nat.mul_one]); omega) | decide | (intros; simp_all; done) | (intros; simp_all; omega)) ?_
                refine ⟨n0 - 1, x + 1, [], by omega, by omega, ⟨by decide, rfl⟩, trivial, ?_⟩
                repeat' first | (refine cntP_no ?_; simp [hsa]; done) | (refine cntP_no ?_; simp [hsa, hbt]; done) | (refine cntP_yes ?_; simp [hsa, hbt]; done) | exact True.intro | exact rfl | exact ⟨rfl, rfl⟩ | refine And.intro ?_ ?_
              · try dsimp only [Ty.T] at h6
                try simp only [castL_self] at h6
                try simp only [Int.toNat_natCast] at h6
                try simp only [Int.toNat_zero] at h6
                have hbt : x.testBit k.toNat = false := by simpa using h6
                -- region 23
                refine AWPD.keep [0, 1, 3, 13, 15, 17, 19, 20, 21] rfl ?_
                refine AWPD.region tabOK rfl ?_
                repeat refine And.intro (by first | exact fun h => h | exact fun _ => rfl | (intro h; rw [h]; rfl) | omega | (intros; (try dsimp only [Ty.T, Ty.size]); (try simp only [castL_self, Int.toNat_natCast, Int.toNat_zero, Int.toNat_one, true_and, List.length_append, List.length_set, List.length_drop, List.length_take, List.length_replicate, List.length_cons, List.length_nil, Nat.zero_add, Nat.mul_one]); omega) | decide | (intros; simp_all; done) | (intros; simp_all; omega)) ?_
                refine hK21 _ _ ?_
                clear hK21
                -- region 16
                refine AWPD.keep [0, 1, 3, 13, 15, 17, 19, 20, 21] rfl ?_
                refine AWPD.region tabOK rfl ?_
                repeat refine And.intro (by first | exact fun h => h | exact fun _ => rfl | (intro h; rw [h]; rfl) | omega | (intros; (try dsimp only [Ty.T, Ty.size]); (try simp only [castL_self, Int.toNat_natCast, Int.toNat_zero, Int.toNat_one, true_and, List.length_append, List.length_set, List.length_drop, List.length_take, List.length_replicate, List.length_cons, List.length_nil, Nat.zero_add, Nat.mul_one]); omega) | decide | (intros; simp_all; done) | (intros; simp_all; omega)) ?_
                refine ⟨n0 - 1, x + 1, [], by omega, by omega, ⟨by decide, rfl⟩, trivial, ?_⟩
                repeat' first | (refine cntP_no ?_; simp [hsa]; done) | (refine cntP_no ?_; simp [hsa, hbt]; done) | (refine cntP_yes ?_; simp [hsa, hbt]; done) | exact True.intro | exact rfl | exact ⟨rfl, rfl⟩ | refine And.intro ?_ ?_
        · try dsimp only [Ty.T] at h3
          try simp only [castL_self] at h3
          try simp only [Int.toNat_natCast] at h3
          try simp only [Int.toNat_zero] at h3
          have hx : x = 2 ^ z.toNat := by omega
          have hbc := both_count (sameA asks bits.toNat) (fun y => y.testBit k.toNat) (2 ^ z.toNat)
          have hgc := g.a.count bits.toNat
          have hpr : powN (z - rankV z asks).toNat = 2 ^ (z.toNat - (ofV asks).2) := by
            unfold powN
            rw [show (z - rankV z asks).toNat = z.toNat - (ofV asks).2 by omega]
          refine AWPD.exit ?_
          refine hK17 _ _ ?_
          clear hK17
          refine AWPD.seq fun K28 hK28 => ?_
          refine AWPD.seq fun K29 hK29 => ?_
          -- region 24
          refine AWPD.keep [0, 13, 17, 19, 20] rfl ?_
          refine AWPD.region tabOK rfl ?_
          repeat refine And.intro (by first | exact fun h => h | exact fun _ => rfl | (intro h; rw [h]; rfl) | omega | (intros; (try dsimp only [Ty.T, Ty.size]); (try simp only [castL_self, Int.toNat_natCast, Int.toNat_zero, Int.toNat_one, true_and, List.length_append, List.length_set, List.length_drop, List.length_take, List.length_replicate, List.length_cons, List.length_nil, Nat.zero_add, Nat.mul_one]); omega) | decide | (intros; simp_all; done) | (intros; simp_all; omega)) ?_
          refine Exists.intro _ (Exists.intro _ (And.intro (fun hg => StepD.call (pow2_fn (z - rankV z asks) (by omega)) rfl rfl rfl) (And.intro (fun hf => rfl) (And.intro rfl (And.intro trivial ?_)))))
          repeat refine And.intro (by first | exact fun h => h | exact fun _ => rfl | (intro h; rw [h]; rfl) | omega | (intros; (try dsimp only [Ty.T, Ty.size]); (try simp only [castL_self, Int.toNat_natCast, Int.toNat_zero, Int.toNat_one, true_and, List.length_append, List.length_set, List.length_drop, List.length_take, List.length_replicate, List.length_cons, List.length_nil, Nat.zero_add, Nat.mul_one]); omega) | decide | (intros; simp_all; done) | (intros; simp_all; omega)) ?_
          refine hK29 _ _ ?_
          clear hK29
          first | refine AWPD.cond rfl (fun h7 => ?_) (fun h7 => ?_)
          · try dsimp only [Ty.T] at h7
            try simp only [castL_self] at h7
            try simp only [Int.toNat_natCast] at h7
            try simp only [Int.toNat_zero] at h7
            exfalso
            simp only [Bool.cond_true_left, Bool.or_eq_true, decide_eq_true_eq, hx] at h7
            omega
          · try dsimp only [Ty.T] at h7
            try simp only [castL_self] at h7
            try simp only [Int.toNat_natCast] at h7
            try simp only [Int.toNat_zero] at h7
            refine AWPD.skip ?_
            refine hK28 _ _ ?_
            clear hK28
            refine AWPD.seq fun K30 hK30 => ?_
            refine AWPD.seq fun K31 hK31 => ?_
            -- region 26
            refine AWPD.keep [13, 19, 20] rfl ?_
            refine AWPD.region tabOK rfl ?_
            refine hK31 _ _ ?_
            clear hK31
            first | refine AWPD.cond rfl (fun h8 => ?_) (fun h8 => ?_)
            · try dsimp only [Ty.T] at h8
              try simp only [castL_self] at h8
              try simp only [Int.toNat_natCast] at h8
              try simp only [Int.toNat_zero] at h8
              have hto := told_none (b := bits.toNat) (hc8.1 h8) (2 ^ z.toNat)
              refine AWPD.seq fun K32 hK32 => ?_
              -- region 27
              refine AWPD.keep [19, 20] rfl ?_
              refine AWPD.region tabOK rfl ?_
              repeat refine And.intro (by first | exact fun h => h | exact fun _ => rfl | (intro h; rw [h]; rfl) | omega | (intros; (try dsimp only [Ty.T, Ty.size]); (try simp only [castL_self, Int.toNat_natCast, Int.toNat_zero, Int.toNat_one, true_and, List.length_append, List.length_set, List.length_drop, List.length_take, List.length_replicate, List.length_cons, List.length_nil, Nat.zero_add, Nat.mul_one]); omega) | decide | (intros; simp_all; done) | (intros; simp_all; omega)) ?_
              refine hK32 _ _ ?_
              clear hK32
              refine AWPD.ret (And.intro (.inl rfl) ?_)
              -- result 2
              refine RetD.one ?_
              refine fitB rfl ?_
              rw [hx]
              rcases hto with h | h
              · rw [h]; simp
              · rw [h]; simp
            · try dsimp only [Ty.T] at h8
              try simp only [castL_self] at h8
              try simp only [Int.toNat_natCast] at h8
              try simp only [Int.toNat_zero] at h8
              have hto := g.a.half (i := k.toNat) (by omega) bits.toNat (fun hh => by rw [hc8.2 hh] at h8; cases h8)
              refine AWPD.skip ?_
              refine hK30 _ _ ?_
              clear hK30
              refine AWPD.seq fun K33 hK33 => ?_
              -- region 28
              refine AWPD.keep [19, 20] rfl ?_
              refine AWPD.region tabOK rfl ?_
              refine hK33 _ _ ?_
              clear hK33
              refine AWPD.ret (And.intro (.inl rfl) ?_)
              -- result 3
              refine RetD.one ?_
              refine fitB rfl ?_
              rw [hx, hto]
              simp
end Go.Proofs.Ytmeacgkhabnjlaa
