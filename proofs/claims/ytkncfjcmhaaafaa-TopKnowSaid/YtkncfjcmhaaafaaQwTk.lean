/-
  WALK of the law TopKnow. Laid by a program of mine out of the operations, with the loops and results told by hand.
-/
import Derived.Test.YtkncfjcmhaaafaaQwDg
import Derived.Test.YtkncfjcmhaaafaaQwPa
namespace Go.Proofs.Ytkncfjcmhaaafaa
open Go Go.Qw
set_option maxRecDepth 10000
set_option linter.unusedSimpArgs false
set_option linter.unusedVariables false
set_option linter.unusedSectionVars false


abbrev Strict (S : List Int) : Prop := List.Pairwise (· < ·) S
theorem strict_ext : ∀ {a b : List Int}, Strict a → Strict b → (∀ y, y ∈ a ↔ y ∈ b) → a = b
  | [], [], _, _, _ => rfl
  | [], y :: b, _, _, h => absurd ((h y).2 (by simp)) (by simp)
  | x :: a, [], _, _, h => absurd ((h x).1 (by simp)) (by simp)
  | x :: a, y :: b, ha, hb, h => by
    obtain ⟨ha1, ha2⟩ := List.pairwise_cons.1 ha
    obtain ⟨hb1, hb2⟩ := List.pairwise_cons.1 hb
    have hxy : x = y := by
      rcases List.mem_cons.1 ((h x).1 (by simp)) with h1 | h1
      · exact h1
      · rcases List.mem_cons.1 ((h y).2 (by simp)) with h2 | h2
        · exact h2.symm
        · have := hb1 x h1
          have := ha1 y h2
          omega
    subst hxy
    rw [strict_ext ha2 hb2 fun z => ?_]
    constructor
    · intro hz
      rcases List.mem_cons.1 ((h z).1 (List.mem_cons_of_mem _ hz)) with h1 | h1
      · have := ha1 z hz; omega
      · exact h1
    · intro hz
      rcases List.mem_cons.1 ((h z).2 (List.mem_cons_of_mem _ hz)) with h1 | h1
      · have := hb1 z hz; omega
      · exact h1
theorem sortI_pair (xs : List Int) : List.Pairwise (· ≤ ·) (sortI xs) := by
  have := List.pairwise_mergeSort (le := fun x y : Int => decide (x ≤ y)) (fun a b c h1 h2 => by simp at *; omega) (fun a b => by simp; omega) xs
  exact this.imp fun h => by simpa using h
theorem pair_getD {S : List Int} {R : Int → Int → Prop} (h : List.Pairwise R S) {i j : Nat} (hij : i < j) (hj : j < S.length) : R (S.getD i 0) (S.getD j 0) := by
  have := List.pairwise_iff_getElem.1 h i j (by omega) hj hij
  simpa [List.getD, hj, show i < S.length by omega] using this
theorem compact_strict {zs : List Int} (h : List.Pairwise (· ≤ ·) zs) : ∀ m, m ≤ zs.length → Strict (Lib.compactUpTo zs.toArray m) ∧ ∀ y, y ∈ Lib.compactUpTo zs.toArray m → 0 < m ∧ y ≤ zs.getD (m - 1) 0
  | 0, _ => ⟨List.Pairwise.nil, fun y hy => by simp [Lib.compactUpTo] at hy⟩
  | m + 1, hm => by
    obtain ⟨h1, h2⟩ := compact_strict h m (by omega)
    have hle : 0 < m → zs.getD (m - 1) 0 ≤ zs.getD m 0 := fun h0 => pair_getD h (show m - 1 < m by omega) (by omega)
    rw [Lib.compactUpTo_succ]
    by_cases hk : Lib.keeps zs.toArray m = true
    · rw [if_pos hk]
      have hne : 0 < m → zs.getD m 0 ≠ zs.getD (m - 1) 0 := fun h0 => by
        unfold Lib.keeps at hk
        rw [decide_eq_true_eq, get_bang, get_bang] at hk
        rcases hk with hk | hk
        · omega
        · exact hk
      rw [get_bang]
      refine ⟨List.pairwise_append.2 ⟨h1, List.pairwise_singleton _ _, fun a ha b hb => ?_⟩, fun y hy => ⟨by omega, ?_⟩⟩
      · obtain ⟨h0, h3⟩ := h2 a ha
        have h4 := hle h0
        have h5 := hne h0
        have hb := List.mem_singleton.1 hb
        omega
      · rw [show m + 1 - 1 = m by omega]
        rcases List.mem_append.1 hy with h3 | h3
        · obtain ⟨h0, h4⟩ := h2 y h3
          have := hle h0
          omega
        · have := List.mem_singleton.1 h3
          omega
    · rw [if_neg hk, List.append_nil]
      refine ⟨h1, fun y hy => ⟨by omega, ?_⟩⟩
      rw [show m + 1 - 1 = m by omega]
      obtain ⟨h0, h4⟩ := h2 y hy
      have := hle h0
      omega
/-- A column of the first worlds. -/
def colW (l : List (Int × Int)) (k : Int) (i : Nat) : List Int := Lib.compact (sortI (colP l k i))
theorem colW_strict (l : List (Int × Int)) (k : Int) (i : Nat) : Strict (colW l k i) := (compact_strict (sortI_pair _) _ (Nat.le_refl _)).1
theorem colW_mem {l : List (Int × Int)} {k y : Int} {i : Nat} : y ∈ colW l k i ↔ ∃ j, j < i ∧ pickC k (l.getD j (0, 0)) = y := by
  unfold colW
  rw [mem_compact, sortI_mem]
  unfold colP
  rw [List.mem_map]
  exact ⟨fun ⟨j, h1, h2⟩ => ⟨j, List.mem_range.1 h1, h2⟩, fun ⟨j, h1, h2⟩ => ⟨j, List.mem_range.2 h1, h2⟩⟩
theorem colW_len (l : List (Int × Int)) (k : Int) (i : Nat) : (colW l k i).length ≤ i := by
  have h := Go.Lib.compact_length_le (sortI (colP l k i))
  rw [sortI_len, colP_len] at h
  exact h
theorem colW_all (l : List (Int × Int)) (k : Int) : colW l k l.length = colV l k := by unfold colW colV; rw [colP_all]
theorem colW_zero (l : List (Int × Int)) (k : Int) : colW l k 0 = [] := List.eq_nil_of_length_eq_zero (by have := colW_len l k 0; omega)
theorem colW_next {l : List (Int × Int)} {k y : Int} {i : Nat} : y ∈ colW l k (i + 1) ↔ y ∈ colW l k i ∨ y = pickC k (l.getD i (0, 0)) := by
  rw [colW_mem, colW_mem]
  constructor
  · rintro ⟨j, h1, h2⟩
    by_cases he : j = i
    · subst he; exact .inr h2.symm
    · exact .inl ⟨j, by omega, h2⟩
  · rintro (⟨j, h1, h2⟩ | h1)
    · exact ⟨j, by omega, h2⟩
    · exact ⟨i, by omega, h1.symm⟩
theorem colW_same {l : List (Int × Int)} {k : Int} {i a : Nat} (ha : a < (colW l k i).length) (he : (colW l k i).getD a 0 = pickC k (l.getD i (0, 0))) : colW l k i = colW l k (i + 1) :=
  strict_ext (colW_strict _ _ _) (colW_strict _ _ _) fun y => by
    rw [colW_next]
    refine ⟨.inl, fun h => h.elim id fun h => ?_⟩
    rw [h, ← he]
    exact getD_mem ha 0
theorem colW_ins {l : List (Int × Int)} {k : Int} {i a : Nat} (hal : a ≤ (colW l k i).length) (hlo : ∀ b, b < a → (colW l k i).getD b 0 < pickC k (l.getD i (0, 0))) (hhi : ¬(a < (colW l k i).length ∧ (colW l k i).getD a 0 < pickC k (l.getD i (0, 0)))) (hne : ¬(a < (colW l k i).length ∧ (colW l k i).getD a 0 = pickC k (l.getD i (0, 0)))) :
    (colW l k i).take a ++ [pickC k (l.getD i (0, 0))] ++ (colW l k i).drop a = colW l k (i + 1) := by
  have hs := colW_strict l k i
  have hlt : ∀ x, x ∈ (colW l k i).take a → x < pickC k (l.getD i (0, 0)) := fun x hx => by
    obtain ⟨b, hb, rfl⟩ := List.getElem_of_mem hx
    rw [List.length_take] at hb
    have := hlo b (by omega)
    rw [List.getElem_take]
    simpa [List.getD, show b < (colW l k i).length by omega] using this
  have hgt : ∀ x, x ∈ (colW l k i).drop a → pickC k (l.getD i (0, 0)) < x := fun x hx => by
    obtain ⟨b, hb, rfl⟩ := List.getElem_of_mem hx
    rw [List.length_drop] at hb
    have h1 : ¬(colW l k i).getD a 0 < pickC k (l.getD i (0, 0)) := fun h => hhi ⟨by omega, h⟩
    have h2 : ¬(colW l k i).getD a 0 = pickC k (l.getD i (0, 0)) := fun h => hne ⟨by omega, h⟩
    rw [List.getElem_drop]
    have h3 : (colW l k i).getD (a + b) 0 = (colW l k i)[a + b] := by simp [List.getD, show a + b < (colW l k i).length by omega]
    rw [← h3]
    by_cases h0 : b = 0
    · subst h0; rw [Nat.add_zero]; omega
    · have := pair_getD hs (show a < a + b by omega) (by omega)
      omega
  refine strict_ext ?_ (colW_strict _ _ _) fun y => ?_
  · refine List.pairwise_append.2 ⟨List.pairwise_append.2 ⟨hs.sublist (List.take_sublist _ _), List.pairwise_singleton _ _, fun x hx y hy => ?_⟩, hs.sublist (List.drop_sublist _ _), fun x hx y hy => ?_⟩
    · rw [List.mem_singleton.1 hy]; exact hlt x hx
    · have h2 := hgt y hy
      rcases List.mem_append.1 hx with h1 | h1
      · have := hlt x h1; omega
      · rw [List.mem_singleton.1 h1]; exact h2
  · rw [colW_next, List.mem_append, List.mem_append, List.mem_singleton]
    have e : y ∈ colW l k i ↔ y ∈ (colW l k i).take a ∨ y ∈ (colW l k i).drop a := by
      rw [← List.mem_append, List.take_append_drop]
    rw [e]
    constructor
    · rintro ((h | h) | h)
      · exact .inl (.inl h)
      · exact .inr h
      · exact .inl (.inr h)
    · rintro ((h | h) | h)
      · exact .inl (.inl h)
      · exact .inr h
      · exact .inl (.inr h)
def hereQ (l : List (Int × Int)) (q : Int × Int) : Nat → Bool
  | 0 => false
  | k + 1 => hereQ l q k || (decide ((l.getD k (0, 0)).1 = q.1) && decide ((l.getD k (0, 0)).2 = q.2))
theorem here_step (a b c : Bool) : (bif a then true else bif b then c else false) = (a || (b && c)) := by cases a <;> cases b <;> cases c <;> rfl
theorem hereQ_iff {l : List (Int × Int)} {q : Int × Int} : ∀ {k}, hereQ l q k = true ↔ ∃ a, a < k ∧ l.getD a (0, 0) = q
  | 0 => by simp [hereQ]
  | k + 1 => by
    rw [hereQ, Bool.or_eq_true, hereQ_iff (k := k), Bool.and_eq_true, decide_eq_true_eq, decide_eq_true_eq]
    constructor
    · rintro (⟨a, h1, h2⟩ | ⟨h1, h2⟩)
      · exact ⟨a, by omega, h2⟩
      · exact ⟨k, by omega, Prod.ext h1 h2⟩
    · rintro ⟨a, h1, h2⟩
      by_cases he : a = k
      · subst he; exact .inr ⟨by rw [h2], by rw [h2]⟩
      · exact .inl ⟨a, by omega, h2⟩
theorem hereQ_mem {l : List (Int × Int)} {q : Int × Int} : hereQ l q l.length = true ↔ q ∈ l := by
  rw [hereQ_iff]
  constructor
  · rintro ⟨a, h1, rfl⟩; exact getD_mem h1 (0, 0)
  · intro h
    obtain ⟨a, h1, rfl⟩ := List.getElem_of_mem h
    exact ⟨a, h1, by simp [List.getD, h1]⟩
theorem blindL_len (l : List (Int × Int)) : (blindL l).length ≤ 2 := by
  unfold blindL
  split
  · split <;> simp
  · simp


theorem colP_get {l : List (Int × Int)} {k : Int} {j n : Nat} (h : j < n) : (colP l k n).getD j 0 = pickC k (l.getD j (0, 0)) := by simp [colP, List.getD, h]
theorem maskA_yes {p : List Int} {k : Int} {j : Nat} (h : p.getD j 0 = k) : ((maskP p k j : Nat) : Int) + ((powN j : Nat) : Int) = ((maskP p k (j + 1) : Nat) : Int) := by
  rw [maskP, if_pos h]
  have hlt := maskP_lt p k j
  have := Nat.two_pow_add_eq_or_of_lt hlt 1
  rw [Nat.mul_one] at this
  rw [Nat.or_comm, ← this]
  unfold powN
  omega
theorem maskA_no {p : List Int} {k : Int} {j : Nat} (h : ¬p.getD j 0 = k) : ((maskP p k j : Nat) : Int) = ((maskP p k (j + 1) : Nat) : Int) := by rw [maskP, if_neg h]
theorem kfact1 : knV [0, 0, 1] 5 = 4 := by decide +kernel
theorem kfact2 : knE [0, 0, 1] 5 = 0 := by decide +kernel
/-- Who sees the second column: what one knows of who has a number in the first one. -/
def evN (l : List (Int × Int)) (y : Int) : Nat := maskP (colP l 0 l.length) y l.length
theorem evN_bit {l : List (Int × Int)} {y : Int} {j : Nat} : (evN l y).testBit j = true ↔ j < l.length ∧ (l.getD j (0, 0)).1 = y := by
  unfold evN
  rw [maskP_bit, Bool.and_eq_true, decide_eq_true_eq, decide_eq_true_eq]
  constructor
  · rintro ⟨h1, h2⟩
    rw [colP_get h1] at h2
    exact ⟨h1, h2⟩
  · rintro ⟨h1, h2⟩
    exact ⟨h1, by rw [colP_get h1]; exact h2⟩
theorem top_parts {l : List (Int × Int)} (hl : l.length ≤ 12) : Parts (ofL (colP l 1 l.length)) l.length fun i j => (colP l 1 l.length).getD i 0 = (colP l 1 l.length).getD j 0 := by
  have := ofL_parts (l := colP l 1 l.length) (by rw [colP_len]; exact hl)
  rwa [colP_len] at this
theorem top_bit {l : List (Int × Int)} {y : Int} (hl : l.length ≤ 12) {i : Nat} : (knowN (ofL (colP l 1 l.length)) (evN l y)).testBit i = true ↔ i < l.length ∧ ∀ j, j < l.length → (l.getD j (0, 0)).2 = (l.getD i (0, 0)).2 → (l.getD j (0, 0)).1 = y := by
  have P := top_parts hl
  rw [knowN_bit P.ok, P.len]
  constructor
  · rintro ⟨h1, h2⟩
    refine ⟨h1, fun j hj he => ?_⟩
    refine (evN_bit.1 (h2 j hj ((P.eqv j i hj h1).2 ?_))).2
    rw [colP_get hj, colP_get h1]
    exact he
  · rintro ⟨h1, h2⟩
    refine ⟨h1, fun j hj he => evN_bit.2 ⟨hj, h2 j hj ?_⟩⟩
    have := (P.eqv j i hj h1).1 he
    rw [colP_get hj, colP_get h1] at this
    exact this
theorem left_strict {l : List (Int × Int)} (h : wldE l = 0) (s : Int) : Strict (leftV l s) := by
  unfold leftV
  rw [if_pos h, ← colW_all]
  exact colW_strict _ _ _
theorem one_iff {x : List Int} {y : Int} (hs : Strict x) (h0 : x.length ≠ 0) : (x.length = 1 ∧ x.getD 0 0 = y) ↔ ∀ z, z ∈ x → z = y := by
  constructor
  · rintro ⟨h1, h2⟩ z hz
    obtain ⟨a, ha, rfl⟩ := mem_getD.1 hz
    rw [show a = 0 by omega]; exact h2
  · intro h
    have e0 := h _ (getD_mem (show 0 < x.length by omega) 0)
    refine ⟨?_, e0⟩
    refine Decidable.byContradiction fun hne => ?_
    have e1 := h _ (getD_mem (show 1 < x.length by omega) 0)
    have := pair_getD hs (show 0 < 1 by omega) (show 1 < x.length by omega)
    omega
theorem top_left {l : List (Int × Int)} {y : Int} (h : wldE l = 0) (hl : l.length ≤ 12) {i : Nat} (hi : i < l.length) : (knowN (ofL (colP l 1 l.length)) (evN l y)).testBit i = true ↔ (leftV l (l.getD i (0, 0)).2).length = 1 ∧ (leftV l (l.getD i (0, 0)).2).getD 0 0 = y := by
  rw [top_bit hl, one_iff (left_strict h _) (left_some h hi)]
  constructor
  · rintro ⟨_, h2⟩ z hz
    obtain ⟨j, hj, he⟩ := List.getElem_of_mem ((leftV_mem h).1 hz)
    have e : l.getD j (0, 0) = (z, (l.getD i (0, 0)).2) := by simp only [List.getD, List.getElem?_eq_getElem hj, Option.getD_some]; exact he
    have := h2 j hj (by rw [e])
    rw [e] at this
    exact this
  · intro hh
    refine ⟨hi, fun j hj he => hh _ ((leftV_mem h).2 ?_)⟩
    rw [← he]
    exact getD_mem hj (0, 0)
theorem top_end {l : List (Int × Int)} {y : Int} (h : wldE l = 0) (hl : l.length ≤ 12) (hb : blindB l = true) (hk : knowN (ofL (colP l 1 l.length)) (evN l y) ≠ 0) : evN l y = powN l.length - 1 := by
  unfold blindB at hb
  rw [decide_eq_true h, Bool.true_and, decide_eq_true_eq, mis_nil] at hb
  obtain ⟨i, hi⟩ : ∃ i, (knowN (ofL (colP l 1 l.length)) (evN l y)).testBit i = true := by
    refine Classical.byContradiction fun hn => hk (Nat.eq_of_testBit_eq fun i => ?_)
    rw [Nat.zero_testBit]
    cases hh : (knowN (ofL (colP l 1 l.length)) (evN l y)).testBit i with
    | false => rfl
    | true => exact absurd ⟨i, hh⟩ hn
  obtain ⟨h1, h2⟩ := (top_bit hl).1 hi
  refine Nat.eq_of_testBit_eq fun j => ?_
  unfold powN
  rw [Nat.testBit_two_pow_sub_one, Bool.eq_iff_iff, decide_eq_true_eq, evN_bit]
  refine ⟨fun hh => hh.1, fun hj => ⟨hj, ?_⟩⟩
  have hm := hb _ _ (getD_mem hj (0, 0)) (getD_mem h1 (0, 0))
  obtain ⟨k, hkl, he⟩ := List.getElem_of_mem hm
  have e : l.getD k (0, 0) = ((l.getD j (0, 0)).1, (l.getD i (0, 0)).2) := by simp only [List.getD, List.getElem?_eq_getElem hkl, Option.getD_some] at he ⊢; exact he
  have := h2 k hkl (by rw [e])
  rw [e] at this
  exact this

theorem topKnow_fn (l : List (Int × Int)) (y : Int) : LiftsD Try.prog 6 [.sl .two l, .i y] (.b true) := by
  refine LiftsD.of_body 152 [.tmp 4] Try.func6 rfl Try.ntmps6 (by kernel_rfl) rfl rfl fun w0 X0 => ?_
  refine AWPD.seq fun K1 hK1 => ?_
  -- region 0
  refine AWPD.keep [0, 1] rfl ?_
  refine AWPD.region tabOK rfl ?_
  refine hK1 _ _ ?_
  clear hK1
  refine AWPD.seq fun K2 hK2 => ?_
  -- region 1
  refine AWPD.keep [0, 1] rfl ?_
  refine AWPD.region tabOK rfl ?_
  refine Exists.intro _ (Exists.intro _ (And.intro (StepD.call (knows_fn [0, 0, 1] 5) rfl rfl rfl) (And.intro rfl (And.intro trivial ?_))))
  refine hK2 _ _ ?_
  clear hK2
  refine AWPD.seq fun K3 hK3 => ?_
  refine AWPD.seq fun K4 hK4 => ?_
  -- region 2
  rw [kfact1, kfact2]
  refine AWPD.keep [0, 1, 5, 6] rfl ?_
  refine AWPD.region tabOK rfl ?_
  repeat refine And.intro (by first | exact fun h => h | exact fun _ => rfl | (intro h; rw [h]; rfl) | omega | (intros; (try dsimp only [Ty.T, Ty.size]); (try simp only [castL_self, Int.toNat_natCast, Int.toNat_zero, Int.toNat_one, true_and, List.length_append, List.length_set, List.length_drop, List.length_take, List.length_replicate, List.length_cons, List.length_nil, Nat.zero_add, Nat.mul_one]); omega) | decide | (intros; simp_all; done) | (intros; simp_all; omega)) ?_
  refine hK4 _ _ ?_
  clear hK4
  first | refine AWPD.cond rfl (fun h0 => ?_) (fun h0 => ?_)
  · try dsimp only [Ty.T] at h0
    try simp only [castL_self] at h0
    try simp only [Int.toNat_natCast] at h0
    try simp only [Int.toNat_zero] at h0
    exact absurd h0 (by decide)
  · try dsimp only [Ty.T] at h0
    try simp only [castL_self] at h0
    try simp only [Int.toNat_natCast] at h0
    try simp only [Int.toNat_zero] at h0
    refine AWPD.skip ?_
    refine hK3 _ _ ?_
    clear hK3
    refine AWPD.seq fun K5 hK5 => ?_
    refine AWPD.seq fun K6 hK6 => ?_
    -- region 4
    refine AWPD.keep [0, 1] rfl ?_
    refine AWPD.region tabOK rfl ?_
    repeat refine And.intro (by first | exact fun h => h | exact fun _ => rfl | (intro h; rw [h]; rfl) | omega | (intros; (try dsimp only [Ty.T, Ty.size]); (try simp only [castL_self, Int.toNat_natCast, Int.toNat_zero, Int.toNat_one, true_and, List.length_append, List.length_set, List.length_drop, List.length_take, List.length_replicate, List.length_cons, List.length_nil, Nat.zero_add, Nat.mul_one]); omega) | decide | (intros; simp_all; done) | (intros; simp_all; omega)) ?_
    refine hK6 _ _ ?_
    clear hK6
    first | refine AWPD.cond rfl (fun h1 => ?_) (fun h1 => ?_)
    · try dsimp only [Ty.T] at h1
      try simp only [castL_self] at h1
      try simp only [Int.toNat_natCast] at h1
      try simp only [Int.toNat_zero] at h1
      refine AWPD.seq fun K7 hK7 => ?_
      -- region 5
      refine AWPD.keep [] rfl ?_
      refine AWPD.region tabOK rfl ?_
      refine hK7 _ _ ?_
      clear hK7
      refine AWPD.ret (And.intro (.inl rfl) ?_)
      -- result 0
      refine RetD.one ?_
      exact fitB rfl rfl
    · try dsimp only [Ty.T] at h1
      try simp only [castL_self] at h1
      try simp only [Int.toNat_natCast] at h1
      try simp only [Int.toNat_zero] at h1
      have hl12 : 0 < l.length ∧ l.length ≤ 12 := by simp only [Bool.cond_true_left, Bool.or_eq_false_iff, decide_eq_false_iff_not] at h1; omega
      refine AWPD.skip ?_
      refine hK5 _ _ ?_
      clear hK5
      refine AWPD.seq fun K8 hK8 => ?_
      -- region 6
      refine AWPD.keep [0, 1] rfl ?_
      refine AWPD.region tabOK rfl ?_
      refine Exists.intro _ (Exists.intro _ (And.intro (StepD.call (blind_fn _) rfl rfl rfl) (And.intro rfl (And.intro trivial ?_))))
      refine hK8 _ _ ?_
      clear hK8
      refine AWPD.seq fun K9 hK9 => ?_
      refine AWPD.seq fun K10 hK10 => ?_
      -- region 7
      refine AWPD.keep [0, 1, 7, 9] rfl ?_
      refine AWPD.region tabOK rfl ?_
      refine hK10 _ _ ?_
      clear hK10
      first | refine AWPD.condP rfl (fun h2 => ?_) (fun h2 => ?_) | refine AWPD.condN rfl (fun h2 => ?_) (fun h2 => ?_) | refine AWPD.condAP rfl (fun h2 => ?_) (fun h2 => ?_) | refine AWPD.condOP rfl (fun h2 => ?_) (fun h2 => ?_) | refine AWPD.condONN rfl (fun h2 => ?_) (fun h2 => ?_) | refine AWPD.condOPN rfl (fun h2 => ?_) (fun h2 => ?_) | refine AWPD.condA rfl (fun h2 => ?_) (fun h2 => ?_) | refine AWPD.condO rfl (fun h2 => ?_) (fun h2 => ?_) | refine AWPD.cond rfl (fun h2 => ?_) (fun h2 => ?_)
      · try dsimp only [Ty.T] at h2
        try simp only [castL_self] at h2
        try simp only [Int.toNat_natCast] at h2
        try simp only [Int.toNat_zero] at h2
        have hb0 : blindB l = false := by unfold blindB; rw [decide_eq_false h2]; rfl
        refine AWPD.seq fun K11 hK11 => ?_
        -- region 8
        refine AWPD.keep [7] rfl ?_
        refine AWPD.region tabOK rfl ?_
        refine hK11 _ _ ?_
        clear hK11
        refine AWPD.ret (And.intro (.inl rfl) ?_)
        -- result 1
        refine RetD.one ?_
        refine fitB rfl ?_
        rw [hb0]; rfl
      · try dsimp only [Ty.T] at h2
        try simp only [castL_self] at h2
        try simp only [Int.toNat_natCast] at h2
        try simp only [Int.toNat_zero] at h2
        have he : wldE l = 0 := by omega
        refine AWPD.skip ?_
        refine hK9 _ _ ?_
        clear hK9
        refine AWPD.seq fun K12 hK12 => ?_
        -- region 9
        refine AWPD.keep [0, 1, 7] rfl ?_
        refine AWPD.region tabOK rfl ?_
        refine hK12 _ _ ?_
        clear hK12
        refine AWPD.seq fun K13 hK13 => ?_
        -- region 10
        refine AWPD.keep [0, 1, 7, 10] rfl ?_
        refine AWPD.region tabOK rfl ?_
        refine hK13 _ _ ?_
        clear hK13
        refine AWPD.seq fun K14 hK14 => ?_
        refine AWPD.seq fun K15 hK15 => ?_
        -- region 11
        refine AWPD.keep [0, 1, 7, 10, 11] rfl ?_
        refine AWPD.region tabOK rfl ?_
        refine hK15 _ _ ?_
        clear hK15
        refine AWPD.block ?_
        -- LOOP 0 live [0, 1, 7, 10, 11, 12] changed [10, 11, 12]
        refine AWPD.nilRow 10 3 .int rfl (by decide) ?_
        refine AWPD.loopK (σ := Nat) [0, 1, 7] (fun i base => (10, .ob 0) :: (11, .i (((maskP (colP l 0 l.length) y i) : Nat) : Int)) :: (12, .i (i : Int)) :: base) (fun i => [.row 3 .int (colP l 1 i)]) (fun n i => n + i = l.length) (l.length) 0 [0] rfl rfl (by omega) (by decide) ⟨⟨rfl, rfl, rfl⟩, trivial⟩ (by repeat' first | exact True.intro | exact rfl | exact ⟨rfl, rfl⟩ | refine And.intro ?_ ?_) fun n0 i hI0 => ?_
        have hn0 := hI0
        have hcl := colP_len l 1 i
        have hmk := maskP_small (p := colP l 0 l.length) (k := y) (i := i) (by omega)
        refine AWPD.seq fun K16 hK16 => ?_
        refine AWPD.seq fun K17 hK17 => ?_
        -- region 12
        refine AWPD.keep [0, 1, 7, 10, 11, 12] rfl ?_
        refine AWPD.region tabOK rfl ?_
        refine hK17 _ _ ?_
        clear hK17
        first | refine AWPD.condP rfl (fun h3 => ?_) (fun h3 => ?_) | refine AWPD.condN rfl (fun h3 => ?_) (fun h3 => ?_) | refine AWPD.condAP rfl (fun h3 => ?_) (fun h3 => ?_) | refine AWPD.condOP rfl (fun h3 => ?_) (fun h3 => ?_) | refine AWPD.condONN rfl (fun h3 => ?_) (fun h3 => ?_) | refine AWPD.condOPN rfl (fun h3 => ?_) (fun h3 => ?_) | refine AWPD.condA rfl (fun h3 => ?_) (fun h3 => ?_) | refine AWPD.condO rfl (fun h3 => ?_) (fun h3 => ?_) | refine AWPD.cond rfl (fun h3 => ?_) (fun h3 => ?_)
        · try dsimp only [Ty.T] at h3
          try simp only [castL_self] at h3
          try simp only [Int.toNat_natCast] at h3
          try simp only [Int.toNat_zero] at h3
          have hil : i < l.length := by omega
          have hpi := powN_le (k := i) (by omega)
          have hcg := colP_get (l := l) (k := 0) hil
          refine AWPD.skip ?_
          refine hK16 _ _ ?_
          clear hK16
          refine AWPD.seq fun K18 hK18 => ?_
          refine AWPD.block ?_
          refine AWPD.seq fun K19 hK19 => ?_
          -- region 14
          refine AWPD.keep [0, 1, 7, 10, 11, 12] rfl ?_
          refine AWPD.region tabOK rfl ?_
          repeat refine And.intro (by first | exact fun h => h | exact fun _ => rfl | (intro h; rw [h]; rfl) | omega | (intros; (try dsimp only [Ty.T, Ty.size]); (try simp only [castL_self, Int.toNat_natCast, Int.toNat_zero, Int.toNat_one, true_and, List.length_append, List.length_set, List.length_drop, List.length_take, List.length_replicate, List.length_cons, List.length_nil, Nat.zero_add, Nat.mul_one]); omega) | decide | (intros; simp_all; done) | (intros; simp_all; omega)) ?_
          refine hK19 _ _ ?_
          clear hK19
          refine AWPD.seq fun K20 hK20 => ?_
          -- region 15
          refine AWPD.keep [0, 1, 7, 10, 11, 12] rfl ?_
          refine AWPD.region tabOK rfl ?_
          repeat refine And.intro (by first | exact fun h => h | exact fun _ => rfl | (intro h; rw [h]; rfl) | omega | (intros; (try dsimp only [Ty.T, Ty.size]); (try simp only [castL_self, Int.toNat_natCast, Int.toNat_zero, Int.toNat_one, true_and, List.length_append, List.length_set, List.length_drop, List.length_take, List.length_replicate, List.length_cons, List.length_nil, Nat.zero_add, Nat.mul_one]); omega) | decide | (intros; simp_all; done) | (intros; simp_all; omega)) ?_
          refine hK20 _ _ ?_
          clear hK20
          first | refine AWPD.condP rfl (fun h4 => ?_) (fun h4 => ?_) | refine AWPD.condN rfl (fun h4 => ?_) (fun h4 => ?_) | refine AWPD.condAP rfl (fun h4 => ?_) (fun h4 => ?_) | refine AWPD.condOP rfl (fun h4 => ?_) (fun h4 => ?_) | refine AWPD.condONN rfl (fun h4 => ?_) (fun h4 => ?_) | refine AWPD.condOPN rfl (fun h4 => ?_) (fun h4 => ?_) | refine AWPD.condA rfl (fun h4 => ?_) (fun h4 => ?_) | refine AWPD.condO rfl (fun h4 => ?_) (fun h4 => ?_) | refine AWPD.cond rfl (fun h4 => ?_) (fun h4 => ?_)
          · try dsimp only [Ty.T] at h4
            try simp only [castL_self] at h4
            try simp only [Int.toNat_natCast] at h4
            try simp only [Int.toNat_zero] at h4
            have hy : (colP l 0 l.length).getD i 0 = y := by rw [hcg]; exact h4
            -- region 16
            refine AWPD.keep [0, 1, 7, 10, 11, 12] rfl ?_
            refine AWPD.region tabOK rfl ?_
            refine Exists.intro _ (Exists.intro _ (And.intro (StepD.call (pow2_fn _ (by omega)) rfl rfl rfl) (And.intro rfl (And.intro trivial ?_))))
            repeat refine And.intro (by first | exact fun h => h | exact fun _ => rfl | (intro h; rw [h]; rfl) | omega | (intros; (try dsimp only [Ty.T, Ty.size]); (try simp only [castL_self, Int.toNat_natCast, Int.toNat_zero, Int.toNat_one, true_and, List.length_append, List.length_set, List.length_drop, List.length_take, List.length_replicate, List.length_cons, List.length_nil, Nat.zero_add, Nat.mul_one]); omega) | decide | (intros; simp_all; done) | (intros; simp_all; omega)) ?_
            refine hK18 _ _ ?_
            clear hK18
            -- region 13
            refine AWPD.keep [0, 1, 7, 10, 11, 12] rfl ?_
            refine AWPD.region tabOK rfl ?_
            repeat refine And.intro (by first | exact fun h => h | exact fun _ => rfl | (intro h; rw [h]; rfl) | omega | (intros; (try dsimp only [Ty.T, Ty.size]); (try simp only [castL_self, Int.toNat_natCast, Int.toNat_zero, Int.toNat_one, true_and, List.length_append, List.length_set, List.length_drop, List.length_take, List.length_replicate, List.length_cons, List.length_nil, Nat.zero_add, Nat.mul_one]); omega) | decide | (intros; simp_all; done) | (intros; simp_all; omega)) ?_
            refine ⟨n0 - 1, i + 1, [1], by omega, by omega, ⟨by decide, rfl⟩, ⟨⟨rfl, rfl, (by rw [← colP_app]; rfl)⟩, trivial⟩, ?_⟩
            repeat' first | exact maskA_yes hy | exact maskA_no hy | exact True.intro | exact rfl | exact ⟨rfl, rfl⟩ | refine And.intro ?_ ?_
          · try dsimp only [Ty.T] at h4
            try simp only [castL_self] at h4
            try simp only [Int.toNat_natCast] at h4
            try simp only [Int.toNat_zero] at h4
            have hy : ¬(colP l 0 l.length).getD i 0 = y := by rw [hcg]; exact h4
            refine AWPD.skip ?_
            refine hK18 _ _ ?_
            clear hK18
            -- region 13
            refine AWPD.keep [0, 1, 7, 10, 11, 12] rfl ?_
            refine AWPD.region tabOK rfl ?_
            repeat refine And.intro (by first | exact fun h => h | exact fun _ => rfl | (intro h; rw [h]; rfl) | omega | (intros; (try dsimp only [Ty.T, Ty.size]); (try simp only [castL_self, Int.toNat_natCast, Int.toNat_zero, Int.toNat_one, true_and, List.length_append, List.length_set, List.length_drop, List.length_take, List.length_replicate, List.length_cons, List.length_nil, Nat.zero_add, Nat.mul_one]); omega) | decide | (intros; simp_all; done) | (intros; simp_all; omega)) ?_
            refine ⟨n0 - 1, i + 1, [1], by omega, by omega, ⟨by decide, rfl⟩, ⟨⟨rfl, rfl, (by rw [← colP_app]; rfl)⟩, trivial⟩, ?_⟩
            repeat' first | exact maskA_yes hy | exact maskA_no hy | exact True.intro | exact rfl | exact ⟨rfl, rfl⟩ | refine And.intro ?_ ?_
        · try dsimp only [Ty.T] at h3
          try simp only [castL_self] at h3
          try simp only [Int.toNat_natCast] at h3
          try simp only [Int.toNat_zero] at h3
          have hil : i = l.length := by omega
          have hP := top_parts hl12.2
          have hev : evN l y < 2 ^ l.length := maskP_lt _ _ _
          have hmb : maskB ((evN l y : Nat) : Int) ((ofL (colP l 1 l.length)).length : Int) = true := by
            rw [hP.len]
            exact decide_eq_true ⟨by omega, by rw [Int.toNat_natCast]; omega⟩
          have hoE : ofE (colP l 1 l.length) = 0 := by unfold ofE; rw [if_neg (by rw [colP_len]; omega)]
          have hkE := knE_zero hP.ok hmb
          have hkV := knV_ok hP.ok hmb
          rw [Int.toNat_natCast] at hkV
          have hks := knowN_small hP.ok (evN l y)
          have hevi : maskP (colP l 0 l.length) y i = evN l y := by unfold evN; rw [hil]
          have hci : colP l 1 i = colP l 1 l.length := by rw [hil]
          have hpl := powN_le (k := l.length) (by omega)
          have hpp := powN_pos l.length
          refine AWPD.exit ?_
          refine hK14 _ _ ?_
          clear hK14
          refine AWPD.seq fun K21 hK21 => ?_
          -- region 17
          refine AWPD.freeze 10 rfl rfl rfl ?_
          rw [hevi, hci]
          refine AWPD.keep [0, 1, 7, 10, 11] rfl ?_
          refine AWPD.region tabOK rfl ?_
          refine Exists.intro _ (Exists.intro _ (And.intro (StepD.call (of_fn (colP l 1 l.length)) rfl rfl rfl) (And.intro rfl (And.intro trivial ?_))))
          refine hK21 _ _ ?_
          clear hK21
          refine AWPD.seq fun K22 hK22 => ?_
          -- region 18
          refine AWPD.keep [0, 1, 7, 11, 13, 14] rfl ?_
          refine AWPD.region tabOK rfl ?_
          refine Exists.intro _ (Exists.intro _ (And.intro (StepD.call (knows_fn (ofL (colP l 1 l.length)) ((evN l y : Nat) : Int)) rfl rfl rfl) (And.intro rfl (And.intro trivial ?_))))
          refine hK22 _ _ ?_
          clear hK22
          refine AWPD.seq fun K23 hK23 => ?_
          refine AWPD.seq fun K24 hK24 => ?_
          -- region 19
          rw [hoE, hkE, hkV]
          refine AWPD.keep [0, 1, 7, 11, 14, 15, 16] rfl ?_
          refine AWPD.region tabOK rfl ?_
          repeat refine And.intro (by first | exact fun h => h | exact fun _ => rfl | (intro h; rw [h]; rfl) | omega | (intros; (try dsimp only [Ty.T, Ty.size]); (try simp only [castL_self, Int.toNat_natCast, Int.toNat_zero, Int.toNat_one, true_and, List.length_append, List.length_set, List.length_drop, List.length_take, List.length_replicate, List.length_cons, List.length_nil, Nat.zero_add, Nat.mul_one]); omega) | decide | (intros; simp_all; done) | (intros; simp_all; omega)) ?_
          refine hK24 _ _ ?_
          clear hK24
          first | refine AWPD.cond rfl (fun h5 => ?_) (fun h5 => ?_)
          · try dsimp only [Ty.T] at h5
            try simp only [castL_self] at h5
            try simp only [Int.toNat_natCast] at h5
            try simp only [Int.toNat_zero] at h5
            exfalso
            simp only [Bool.cond_true_left, Bool.or_eq_true, decide_eq_true_eq] at h5
            omega
          · try dsimp only [Ty.T] at h5
            try simp only [castL_self] at h5
            try simp only [Int.toNat_natCast] at h5
            try simp only [Int.toNat_zero] at h5
            refine AWPD.skip ?_
            refine hK23 _ _ ?_
            clear hK23
            refine AWPD.seq fun K25 hK25 => ?_
            -- region 21
            refine AWPD.keep [0, 1, 7, 11, 15] rfl ?_
            refine AWPD.region tabOK rfl ?_
            refine Exists.intro _ (Exists.intro _ (And.intro (StepD.call (pow2_fn _ (by omega)) rfl rfl rfl) (And.intro rfl (And.intro trivial ?_))))
            repeat refine And.intro (by first | exact fun h => h | exact fun _ => rfl | (intro h; rw [h]; rfl) | omega | (intros; (try dsimp only [Ty.T, Ty.size]); (try simp only [castL_self, Int.toNat_natCast, Int.toNat_zero, Int.toNat_one, true_and, List.length_append, List.length_set, List.length_drop, List.length_take, List.length_replicate, List.length_cons, List.length_nil, Nat.zero_add, Nat.mul_one]); omega) | decide | (intros; simp_all; done) | (intros; simp_all; omega)) ?_
            refine hK25 _ _ ?_
            clear hK25
            refine AWPD.seq fun K26 hK26 => ?_
            refine AWPD.seq fun K27 hK27 => ?_
            -- region 22
            refine AWPD.keep [0, 1, 7, 11, 15, 17] rfl ?_
            refine AWPD.region tabOK rfl ?_
            refine hK27 _ _ ?_
            clear hK27
            refine AWPD.block ?_
            -- LOOP 1 live [0, 1, 7, 11, 15, 17, 18] changed [18]
            refine AWPD.loopK (σ := Nat) [0, 1, 7, 11, 15, 17] (fun j base => (18, .i (j : Int)) :: base) (fun _ => []) (fun n j => n + j = l.length) (l.length) 0 [] rfl rfl (by omega) (by decide) trivial (by repeat' first | exact True.intro | exact rfl | exact ⟨rfl, rfl⟩ | refine And.intro ?_ ?_) fun n1 j hI1 => ?_
            have hn1 := hI1
            refine AWPD.seq fun K28 hK28 => ?_
            refine AWPD.seq fun K29 hK29 => ?_
            -- region 23
            refine AWPD.keep [0, 1, 7, 11, 15, 17, 18] rfl ?_
            refine AWPD.region tabOK rfl ?_
            refine hK29 _ _ ?_
            clear hK29
            first | refine AWPD.condP rfl (fun h6 => ?_) (fun h6 => ?_) | refine AWPD.condN rfl (fun h6 => ?_) (fun h6 => ?_) | refine AWPD.condAP rfl (fun h6 => ?_) (fun h6 => ?_) | refine AWPD.condOP rfl (fun h6 => ?_) (fun h6 => ?_) | refine AWPD.condONN rfl (fun h6 => ?_) (fun h6 => ?_) | refine AWPD.condOPN rfl (fun h6 => ?_) (fun h6 => ?_) | refine AWPD.condA rfl (fun h6 => ?_) (fun h6 => ?_) | refine AWPD.condO rfl (fun h6 => ?_) (fun h6 => ?_) | refine AWPD.cond rfl (fun h6 => ?_) (fun h6 => ?_)
            · try dsimp only [Ty.T] at h6
              try simp only [castL_self] at h6
              try simp only [Int.toNat_natCast] at h6
              try simp only [Int.toNat_zero] at h6
              have hjl : j < l.length := by omega
              have hls := left_some he hjl
              have hll := leftV_len (l := l) (s := (l.getD j (0, 0)).2)
              have htl := top_left (y := y) he hl12.2 hjl
              refine AWPD.skip ?_
              refine hK28 _ _ ?_
              clear hK28
              refine AWPD.seq fun K30 hK30 => ?_
              refine AWPD.block ?_
              refine AWPD.seq fun K31 hK31 => ?_
              -- region 25
              refine AWPD.keep [0, 1, 7, 11, 15, 17, 18] rfl ?_
              refine AWPD.region tabOK rfl ?_
              repeat refine And.intro (by first | exact fun h => h | exact fun _ => rfl | (intro h; rw [h]; rfl) | omega | (intros; (try dsimp only [Ty.T, Ty.size]); (try simp only [castL_self, Int.toNat_natCast, Int.toNat_zero, Int.toNat_one, true_and, List.length_append, List.length_set, List.length_drop, List.length_take, List.length_replicate, List.length_cons, List.length_nil, Nat.zero_add, Nat.mul_one]); omega) | decide | (intros; simp_all; done) | (intros; simp_all; omega)) ?_
              refine Exists.intro _ (Exists.intro _ (And.intro (StepD.call (left_fn l (l.getD j (0, 0)).2) rfl rfl rfl) (And.intro rfl (And.intro trivial ?_))))
              refine hK31 _ _ ?_
              clear hK31
              refine AWPD.seq fun K32 hK32 => ?_
              refine AWPD.seq fun K33 hK33 => ?_
              -- region 26
              refine AWPD.keep [0, 1, 7, 11, 15, 17, 18, 19, 20] rfl ?_
              refine AWPD.region tabOK rfl ?_
              repeat refine And.intro (by first | exact fun h => h | exact fun _ => rfl | (intro h; rw [h]; rfl) | omega | (intros; (try dsimp only [Ty.T, Ty.size]); (try simp only [castL_self, Int.toNat_natCast, Int.toNat_zero, Int.toNat_one, true_and, List.length_append, List.length_set, List.length_drop, List.length_take, List.length_replicate, List.length_cons, List.length_nil, Nat.zero_add, Nat.mul_one]); omega) | decide | (intros; simp_all; done) | (intros; simp_all; omega)) ?_
              refine hK33 _ _ ?_
              clear hK33
              first | refine AWPD.cond rfl (fun h7 => ?_) (fun h7 => ?_)
              · try dsimp only [Ty.T] at h7
                try simp only [castL_self] at h7
                try simp only [Int.toNat_natCast] at h7
                try simp only [Int.toNat_zero] at h7
                exfalso
                simp only [Bool.cond_true_left, Bool.or_eq_true, decide_eq_true_eq] at h7
                omega
              · try dsimp only [Ty.T] at h7
                try simp only [castL_self] at h7
                try simp only [Int.toNat_natCast] at h7
                try simp only [Int.toNat_zero] at h7
                refine AWPD.skip ?_
                refine hK32 _ _ ?_
                clear hK32
                refine AWPD.seq fun K34 hK34 => ?_
                -- region 28
                refine AWPD.keep [0, 1, 7, 11, 15, 17, 18, 19] rfl ?_
                refine AWPD.region tabOK rfl ?_
                refine Exists.intro _ (Exists.intro _ (And.intro (StepD.call (bit_fn ((knowN (ofL (colP l 1 l.length)) (evN l y) : Nat) : Int) (j : Int) (by omega) (by omega)) rfl rfl rfl) (And.intro rfl (And.intro trivial ?_))))
                repeat refine And.intro (by first | exact fun h => h | exact fun _ => rfl | (intro h; rw [h]; rfl) | omega | (intros; (try dsimp only [Ty.T, Ty.size]); (try simp only [castL_self, Int.toNat_natCast, Int.toNat_zero, Int.toNat_one, true_and, List.length_append, List.length_set, List.length_drop, List.length_take, List.length_replicate, List.length_cons, List.length_nil, Nat.zero_add, Nat.mul_one]); omega) | decide | (intros; simp_all; done) | (intros; simp_all; omega)) ?_
                refine hK34 _ _ ?_
                clear hK34
                first | refine AWPD.cond rfl (fun h8 => ?_) (fun h8 => ?_)
                · try dsimp only [Ty.T] at h8
                  try simp only [castL_self] at h8
                  try simp only [Int.toNat_natCast] at h8
                  try simp only [Int.toNat_zero] at h8
                  exfalso
                  have h8 := bne_iff_ne.1 h8
                  refine h8 (Bool.eq_iff_iff.2 ?_)
                  refine htl.trans ?_
                  simp only [Bool.cond_false_right, Bool.and_eq_true, decide_eq_true_eq]
                  constructor
                  · rintro ⟨a, b⟩; exact ⟨by omega, b⟩
                  · rintro ⟨a, b⟩; exact ⟨by omega, b⟩
                · try dsimp only [Ty.T] at h8
                  try simp only [castL_self] at h8
                  try simp only [Int.toNat_natCast] at h8
                  try simp only [Int.toNat_zero] at h8
                  refine AWPD.skip ?_
                  refine hK30 _ _ ?_
                  clear hK30
                  -- region 24
                  refine AWPD.keep [0, 1, 7, 11, 15, 17, 18] rfl ?_
                  refine AWPD.region tabOK rfl ?_
                  repeat refine And.intro (by first | exact fun h => h | exact fun _ => rfl | (intro h; rw [h]; rfl) | omega | (intros; (try dsimp only [Ty.T, Ty.size]); (try simp only [castL_self, Int.toNat_natCast, Int.toNat_zero, Int.toNat_one, true_and, List.length_append, List.length_set, List.length_drop, List.length_take, List.length_replicate, List.length_cons, List.length_nil, Nat.zero_add, Nat.mul_one]); omega) | decide | (intros; simp_all; done) | (intros; simp_all; omega)) ?_
                  refine ⟨n1 - 1, j + 1, [], by omega, by omega, ⟨by decide, rfl⟩, trivial, ?_⟩
                  repeat' first | exact True.intro | exact rfl | exact ⟨rfl, rfl⟩ | refine And.intro ?_ ?_
            · try dsimp only [Ty.T] at h6
              try simp only [castL_self] at h6
              try simp only [Int.toNat_natCast] at h6
              try simp only [Int.toNat_zero] at h6
              have hjl : j = l.length := by omega
              refine AWPD.exit ?_
              refine hK26 _ _ ?_
              clear hK26
              refine AWPD.seq fun K35 hK35 => ?_
              -- region 30
              refine AWPD.keep [7, 11, 15, 17] rfl ?_
              refine AWPD.region tabOK rfl ?_
              repeat refine And.intro (by first | exact fun h => h | exact fun _ => rfl | (intro h; rw [h]; rfl) | omega | (intros; (try dsimp only [Ty.T, Ty.size]); (try simp only [castL_self, Int.toNat_natCast, Int.toNat_zero, Int.toNat_one, true_and, List.length_append, List.length_set, List.length_drop, List.length_take, List.length_replicate, List.length_cons, List.length_nil, Nat.zero_add, Nat.mul_one]); omega) | decide | (intros; simp_all; done) | (intros; simp_all; omega)) ?_
              refine hK35 _ _ ?_
              clear hK35
              refine AWPD.ret (And.intro (.inl rfl) ?_)
              -- result 2
              refine RetD.one ?_
              refine fitB rfl ?_
              have hend := top_end (y := y) he hl12.2
              cases hb : blindB l with
              | false => rfl
              | true =>
                by_cases hk : knowN (ofL (colP l 1 l.length)) (evN l y) = 0
                · rw [hk]; simp
                · have := hend hb hk
                  simp
                  omega
end Go.Proofs.Ytkncfjcmhaaafaa
