/-
  WALKS of what one learns of what one does not see. Laid by a program of mine out of the operations, with the loops and results told by hand.
-/
import Derived.Test.YtkncfjcmhaaafaaQwSo
import Derived.Test.YtkncfjcmhaaafaaQwBa
import Derived.Test.YtkncfjcmhaaafaaQwSl
namespace Go.Proofs.Ytkncfjcmhaaafaa
open Go Go.Qw
set_option maxRecDepth 10000
set_option linter.unusedSimpArgs false
set_option linter.unusedVariables false
set_option linter.unusedSectionVars false


def inV (n : Int) : Prop := 0 ≤ n ∧ n ≤ 999999
instance (n : Int) : Decidable (inV n) := by unfold inV; infer_instance
/-- What is wrong with worlds. -/
def wldE (l : List (Int × Int)) : Int := if 40 < l.length then 4 else if (∀ j, j < l.length → inV (l.getD j (0, 0)).1 ∧ inV (l.getD j (0, 0)).2) then 0 else 1
theorem wld_ok {l : List (Int × Int)} (h : wldE l = 0) : l.length ≤ 40 ∧ ∀ j, j < l.length → inV (l.getD j (0, 0)).1 ∧ inV (l.getD j (0, 0)).2 := by
  unfold wldE at h
  split at h
  · cases h
  · split at h
    · rename_i h1 h2; exact ⟨by omega, h2⟩
    · cases h
theorem wld_t {a b : Int} (h : (bif !decide (0 ≤ a ∧ a ≤ 999999) then true else !decide (0 ≤ b ∧ b ≤ 999999)) = true) : ¬(inV a ∧ inV b) := by
  unfold inV
  simp at h
  omega
theorem wld_f {a b : Int} (h : (bif !decide (0 ≤ a ∧ a ≤ 999999) then true else !decide (0 ≤ b ∧ b ≤ 999999)) = false) : inV a ∧ inV b := by
  unfold inV
  simp at h
  omega
def pickC (k : Int) (q : Int × Int) : Int := [q.1, q.2].getD k.toNat 0
def colP (l : List (Int × Int)) (k : Int) (i : Nat) : List Int := (List.range i).map fun j => pickC k (l.getD j (0, 0))
theorem colP_len (l : List (Int × Int)) (k : Int) (i : Nat) : (colP l k i).length = i := by simp [colP]
theorem colP_app (l : List (Int × Int)) (k : Int) (i : Nat) : colP l k i ++ [pickC k (l.getD i (0, 0))] = colP l k (i + 1) := by simp [colP, List.range_succ]
theorem colP_all (l : List (Int × Int)) (k : Int) : colP l k l.length = l.map (pickC k) := by
  unfold colP
  refine List.ext_getElem (by simp) fun j h1 h2 => ?_
  have : j < l.length := by simpa using h2
  simp [List.getD, this]
def colV (l : List (Int × Int)) (k : Int) : List Int := Lib.compact (sortI (l.map (pickC k)))
theorem sortI_mem {xs : List Int} {y : Int} : y ∈ sortI xs ↔ y ∈ xs := List.mem_mergeSort
theorem colV_mem {l : List (Int × Int)} {k y : Int} : y ∈ colV l k ↔ ∃ q, q ∈ l ∧ pickC k q = y := by
  unfold colV; rw [mem_compact, sortI_mem, List.mem_map]
theorem colV_len (l : List (Int × Int)) (k : Int) : (colV l k).length ≤ l.length := by
  have h := Go.Lib.compact_length_le (sortI (l.map (pickC k)))
  rw [sortI_len, List.length_map] at h
  exact h
def misR (l : List (Int × Int)) (h : Int) (Y : List Int) : Nat → List (Int × Int)
  | 0 => []
  | j + 1 => if (h, Y.getD j 0) ∈ l then misR l h Y j else misR l h Y j ++ [(h, Y.getD j 0)]
def misC (l : List (Int × Int)) (X Y : List Int) : Nat → List (Int × Int)
  | 0 => []
  | i + 1 => misC l X Y i ++ misR l (X.getD i 0) Y Y.length
/-- All that is missing. -/
def misV (l : List (Int × Int)) : List (Int × Int) := misC l (colV l 0) (colV l 1) (colV l 0).length
theorem misR_yes {l : List (Int × Int)} {h : Int} {Y : List Int} {j : Nat} (hm : (h, Y.getD j 0) ∈ l) : misR l h Y (j + 1) = misR l h Y j := by rw [misR, if_pos hm]
theorem misR_no {l : List (Int × Int)} {h : Int} {Y : List Int} {j : Nat} (hm : (h, Y.getD j 0) ∉ l) : misR l h Y (j + 1) = misR l h Y j ++ [(h, Y.getD j 0)] := by rw [misR, if_neg hm]
theorem misR_pre (l : List (Int × Int)) (h : Int) (Y : List Int) (j : Nat) : ∀ d, misR l h Y j <+: misR l h Y (j + d)
  | 0 => List.prefix_refl _
  | d + 1 => by
    refine (misR_pre l h Y j d).trans ?_
    show misR l h Y (j + d) <+: misR l h Y (j + d + 1)
    rw [misR]
    split
    · exact List.prefix_refl _
    · exact List.prefix_append _ _
theorem misC_pre (l : List (Int × Int)) (X Y : List Int) (i : Nat) : ∀ d, misC l X Y i <+: misC l X Y (i + d)
  | 0 => List.prefix_refl _
  | d + 1 => (misC_pre l X Y i d).trans (List.prefix_append _ _)
theorem misR_len (l : List (Int × Int)) (h : Int) (Y : List Int) : ∀ j, (misR l h Y j).length ≤ j
  | 0 => Nat.le_refl _
  | j + 1 => by
    have := misR_len l h Y j
    rw [misR]
    split
    · omega
    · rw [List.length_append, List.length_singleton]; omega
theorem misC_len (l : List (Int × Int)) (X Y : List Int) : ∀ i, (misC l X Y i).length ≤ Y.length * i
  | 0 => Nat.zero_le _
  | i + 1 => by
    have h1 := misC_len l X Y i
    have h2 := misR_len l (X.getD i 0) Y Y.length
    rw [misC, List.length_append, Nat.mul_succ]
    omega
theorem misR_mem {l : List (Int × Int)} {h : Int} {Y : List Int} {q : Int × Int} : ∀ {j}, q ∈ misR l h Y j ↔ ∃ a, a < j ∧ q = (h, Y.getD a 0) ∧ q ∉ l
  | 0 => by simp [misR]
  | j + 1 => by
    have ih := misR_mem (l := l) (h := h) (Y := Y) (q := q) (j := j)
    rw [misR]
    split
    · rename_i hm
      rw [ih]
      constructor
      · rintro ⟨a, h1, h2⟩; exact ⟨a, by omega, h2⟩
      · rintro ⟨a, h1, h2, h3⟩
        by_cases he : a = j
        · subst he; rw [h2] at h3; exact absurd hm h3
        · exact ⟨a, by omega, h2, h3⟩
    · rename_i hm
      rw [List.mem_append, ih, List.mem_singleton]
      constructor
      · rintro (⟨a, h1, h2⟩ | h1)
        · exact ⟨a, by omega, h2⟩
        · exact ⟨j, by omega, h1, by rw [h1]; exact hm⟩
      · rintro ⟨a, h1, h2, h3⟩
        by_cases he : a = j
        · subst he; exact .inr h2
        · exact .inl ⟨a, by omega, h2, h3⟩
theorem misC_mem {l : List (Int × Int)} {X Y : List Int} {q : Int × Int} : ∀ {i}, q ∈ misC l X Y i ↔ ∃ a b, a < i ∧ b < Y.length ∧ q = (X.getD a 0, Y.getD b 0) ∧ q ∉ l
  | 0 => by simp [misC]
  | i + 1 => by
    rw [misC, List.mem_append, misC_mem (i := i), misR_mem]
    constructor
    · rintro (⟨a, b, h1, h2, h3⟩ | ⟨b, h1, h2⟩)
      · exact ⟨a, b, by omega, h2, h3⟩
      · exact ⟨i, b, by omega, h1, h2⟩
    · rintro ⟨a, b, h1, h2, h3, h4⟩
      by_cases he : a = i
      · subst he; exact .inr ⟨b, h2, h3, h4⟩
      · exact .inl ⟨a, b, by omega, h2, h3, h4⟩
theorem mem_getD {xs : List Int} {y : Int} : y ∈ xs ↔ ∃ a, a < xs.length ∧ y = xs.getD a 0 := by
  constructor
  · intro h
    obtain ⟨a, ha, rfl⟩ := List.getElem_of_mem h
    exact ⟨a, ha, by simp [List.getD, ha]⟩
  · rintro ⟨a, ha, rfl⟩
    exact getD_mem ha 0
theorem misV_mem {l : List (Int × Int)} {q : Int × Int} : q ∈ misV l ↔ (∃ r, r ∈ l ∧ r.1 = q.1) ∧ (∃ r, r ∈ l ∧ r.2 = q.2) ∧ q ∉ l := by
  unfold misV
  rw [misC_mem]
  have hX : ∀ y, y ∈ colV l 0 ↔ ∃ r, r ∈ l ∧ r.1 = y := fun y => colV_mem
  have hY : ∀ y, y ∈ colV l 1 ↔ ∃ r, r ∈ l ∧ r.2 = y := fun y => colV_mem
  rw [← hX, ← hY, mem_getD, mem_getD]
  constructor
  · rintro ⟨a, b, h1, h2, rfl, h4⟩
    exact ⟨⟨a, h1, rfl⟩, ⟨b, h2, rfl⟩, h4⟩
  · rintro ⟨⟨a, h1, e1⟩, ⟨b, h2, e2⟩, h4⟩
    exact ⟨a, b, h1, h2, by rw [← e1, ← e2], h4⟩
def blindB (l : List (Int × Int)) : Bool := decide (wldE l = 0) && decide (misV l = [])
def blindL (l : List (Int × Int)) : List Int := if wldE l = 0 then (match misV l with
  | [] => []
  | q :: _ => [q.1, q.2]) else []
def leftP (l : List (Int × Int)) (s : Int) : Nat → List (Int × Int)
  | 0 => []
  | i + 1 => if (l.getD i (0, 0)).2 = s then leftP l s i ++ [l.getD i (0, 0)] else leftP l s i
theorem leftP_len (l : List (Int × Int)) (s : Int) : ∀ i, (leftP l s i).length ≤ i
  | 0 => Nat.le_refl _
  | i + 1 => by
    have := leftP_len l s i
    rw [leftP]
    split
    · rw [List.length_append, List.length_singleton]; omega
    · omega
def leftV (l : List (Int × Int)) (s : Int) : List Int := if wldE l = 0 then colV (leftP l s l.length) 0 else []
def mixE (l : List (Int × Int)) : Int := if wldE l = 0 then (if 40 < l.length + (misV l).length then 4 else 0) else wldE l
def mixV (l : List (Int × Int)) : List (Int × Int) := if mixE l = 0 then misV l else []
def posV (l : List (Int × Int)) (q : Int × Int) : Int := match l.findIdx? (· == q) with
  | some i => (i : Int)
  | none => -1
theorem posV_at {l : List (Int × Int)} {q : Int × Int} {i : Nat} (h : ∀ j, j < i → l.getD j (0, 0) ≠ q) (hi : i < l.length) (he : l.getD i (0, 0) = q) : posV l q = (i : Int) := by
  have : l.findIdx? (· == q) = some i := by
    rw [List.findIdx?_eq_some_iff_getElem]
    refine ⟨hi, by simpa [List.getD, hi] using he, fun j hj => ?_⟩
    have := h j hj
    simpa [List.getD, show j < l.length by omega] using this
  unfold posV
  rw [this]
theorem posV_no {l : List (Int × Int)} {q : Int × Int} (h : ∀ j, j < l.length → l.getD j (0, 0) ≠ q) : posV l q = -1 := by
  have : l.findIdx? (· == q) = none := by
    rw [List.findIdx?_eq_none_iff]
    intro x hx
    obtain ⟨j, hj, rfl⟩ := List.getElem_of_mem hx
    have := h j hj
    simpa [List.getD, hj] using this
  unfold posV
  rw [this]
theorem posV_mem {l : List (Int × Int)} {q : Int × Int} : decide (0 ≤ posV l q) = decide (q ∈ l) := by
  refine decide_eq_decide.2 ?_
  unfold posV
  cases h : l.findIdx? (· == q) with
  | none =>
    rw [List.findIdx?_eq_none_iff] at h
    refine ⟨fun hh => by simp at hh, fun hm => ?_⟩
    have := h q hm
    simp at this
  | some i =>
    rw [List.findIdx?_eq_some_iff_getElem] at h
    obtain ⟨hi, he, _⟩ := h
    refine ⟨fun _ => ?_, fun _ => by simp⟩
    have he : l[i] = q := by simpa using he
    rw [← he]; exact List.getElem_mem hi

theorem dcheck_fn (l : List (Int × Int)) : LiftsD Try.prog 16 [.sl .two l] (.er 45 (wldE l)) := by
  refine LiftsD.of_body 27 [.tmp 2] Try.func16 rfl Try.ntmps16 (by kernel_rfl) rfl rfl fun w0 X0 => ?_
  refine AWPD.seq fun K1 hK1 => ?_
  -- region 0
  refine AWPD.keep [0] rfl ?_
  refine AWPD.region tabOK rfl ?_
  refine hK1 _ _ ?_
  clear hK1
  refine AWPD.seq fun K2 hK2 => ?_
  refine AWPD.seq fun K3 hK3 => ?_
  -- region 1
  refine AWPD.keep [0] rfl ?_
  refine AWPD.region tabOK rfl ?_
  refine hK3 _ _ ?_
  clear hK3
  first | refine AWPD.condP rfl (fun h0 => ?_) (fun h0 => ?_) | refine AWPD.condN rfl (fun h0 => ?_) (fun h0 => ?_) | refine AWPD.condAP rfl (fun h0 => ?_) (fun h0 => ?_) | refine AWPD.condOP rfl (fun h0 => ?_) (fun h0 => ?_) | refine AWPD.condONN rfl (fun h0 => ?_) (fun h0 => ?_) | refine AWPD.condOPN rfl (fun h0 => ?_) (fun h0 => ?_) | refine AWPD.condA rfl (fun h0 => ?_) (fun h0 => ?_) | refine AWPD.condO rfl (fun h0 => ?_) (fun h0 => ?_) | refine AWPD.cond rfl (fun h0 => ?_) (fun h0 => ?_)
  · try dsimp only [Ty.T] at h0
    try simp only [castL_self] at h0
    try simp only [Int.toNat_natCast] at h0
    try simp only [Int.toNat_zero] at h0
    refine AWPD.seq fun K4 hK4 => ?_
    -- region 2
    refine AWPD.keep [] rfl ?_
    refine AWPD.region tabOK rfl ?_
    repeat refine And.intro (by first | exact fun h => h | exact fun _ => rfl | (intro h; rw [h]; rfl) | omega | (intros; (try dsimp only [Ty.T, Ty.size]); (try simp only [castL_self, Int.toNat_natCast, Int.toNat_zero, Int.toNat_one, true_and, List.length_append, List.length_set, List.length_drop, List.length_take, List.length_replicate, List.length_cons, List.length_nil, Nat.zero_add, Nat.mul_one]); omega) | decide | (intros; simp_all; done) | (intros; simp_all; omega)) ?_
    refine hK4 _ _ ?_
    clear hK4
    refine AWPD.ret (And.intro (.inl rfl) ?_)
    -- result 0
    refine RetD.one ?_
    exact fitE rfl (by unfold wldE; rw [if_pos (by omega)])
  · try dsimp only [Ty.T] at h0
    try simp only [castL_self] at h0
    try simp only [Int.toNat_natCast] at h0
    try simp only [Int.toNat_zero] at h0
    refine AWPD.skip ?_
    refine hK2 _ _ ?_
    clear hK2
    refine AWPD.seq fun K5 hK5 => ?_
    refine AWPD.seq fun K6 hK6 => ?_
    -- region 3
    refine AWPD.keep [0] rfl ?_
    refine AWPD.region tabOK rfl ?_
    refine hK6 _ _ ?_
    clear hK6
    refine AWPD.block ?_
    -- LOOP 0 live [9, 10, 11] changed [11]
    refine AWPD.loopK (σ := Nat) [9, 10] (fun i base => (11, .i (i : Int)) :: base) (fun i => []) (fun n i => n + i = l.length ∧ ∀ j, j < i → inV (l.getD j (0, 0)).1 ∧ inV (l.getD j (0, 0)).2) (l.length) 0 [] rfl rfl (⟨by omega, by intro j hj; omega⟩) (by decide) trivial (by repeat' first | exact True.intro | exact rfl | exact ⟨rfl, rfl⟩ | refine And.intro ?_ ?_) fun n0 i hI0 => ?_
    obtain ⟨hn0, hv0⟩ := hI0
    refine AWPD.seq fun K7 hK7 => ?_
    -- region 4
    refine AWPD.keep [9, 10, 11] rfl ?_
    refine AWPD.region tabOK rfl ?_
    refine hK7 _ _ ?_
    clear hK7
    refine AWPD.seq fun K8 hK8 => ?_
    first | refine AWPD.condP rfl (fun h1 => ?_) (fun h1 => ?_) | refine AWPD.condN rfl (fun h1 => ?_) (fun h1 => ?_) | refine AWPD.condAP rfl (fun h1 => ?_) (fun h1 => ?_) | refine AWPD.condOP rfl (fun h1 => ?_) (fun h1 => ?_) | refine AWPD.condONN rfl (fun h1 => ?_) (fun h1 => ?_) | refine AWPD.condOPN rfl (fun h1 => ?_) (fun h1 => ?_) | refine AWPD.condA rfl (fun h1 => ?_) (fun h1 => ?_) | refine AWPD.condO rfl (fun h1 => ?_) (fun h1 => ?_) | refine AWPD.cond rfl (fun h1 => ?_) (fun h1 => ?_)
    · try dsimp only [Ty.T] at h1
      try simp only [castL_self] at h1
      try simp only [Int.toNat_natCast] at h1
      try simp only [Int.toNat_zero] at h1
      have hil : i < l.length := by omega
      refine AWPD.skip ?_
      refine hK8 _ _ ?_
      clear hK8
      refine AWPD.seq fun K9 hK9 => ?_
      refine AWPD.block ?_
      refine AWPD.seq fun K10 hK10 => ?_
      -- region 5
      refine AWPD.keep [9, 10, 11] rfl ?_
      refine AWPD.region tabOK rfl ?_
      repeat refine And.intro (by first | exact fun h => h | exact fun _ => rfl | (intro h; rw [h]; rfl) | omega | (intros; (try dsimp only [Ty.T, Ty.size]); (try simp only [castL_self, Int.toNat_natCast, Int.toNat_zero, Int.toNat_one, true_and, List.length_append, List.length_set, List.length_drop, List.length_take, List.length_replicate, List.length_cons, List.length_nil, Nat.zero_add, Nat.mul_one]); omega) | decide | (intros; simp_all; done) | (intros; simp_all; omega)) ?_
      refine hK10 _ _ ?_
      clear hK10
      refine AWPD.seq fun K11 hK11 => ?_
      -- region 6
      refine AWPD.keep [4, 9, 10, 11] rfl ?_
      refine AWPD.region tabOK rfl ?_
      repeat refine And.intro (by first | exact fun h => h | exact fun _ => rfl | (intro h; rw [h]; rfl) | omega | (intros; (try dsimp only [Ty.T, Ty.size]); (try simp only [castL_self, Int.toNat_natCast, Int.toNat_zero, Int.toNat_one, true_and, List.length_append, List.length_set, List.length_drop, List.length_take, List.length_replicate, List.length_cons, List.length_nil, Nat.zero_add, Nat.mul_one]); omega) | decide | (intros; simp_all; done) | (intros; simp_all; omega)) ?_
      refine Exists.intro _ (Exists.intro _ (And.intro (StepD.call (within_fn _ _ _) rfl rfl rfl) (And.intro rfl (And.intro trivial ?_))))
      repeat refine And.intro (by first | exact fun h => h | exact fun _ => rfl | (intro h; rw [h]; rfl) | omega | (intros; (try dsimp only [Ty.T, Ty.size]); (try simp only [castL_self, Int.toNat_natCast, Int.toNat_zero, Int.toNat_one, true_and, List.length_append, List.length_set, List.length_drop, List.length_take, List.length_replicate, List.length_cons, List.length_nil, Nat.zero_add, Nat.mul_one]); omega) | decide | (intros; simp_all; done) | (intros; simp_all; omega)) ?_
      refine Exists.intro _ (Exists.intro _ (And.intro (fun hg => StepD.call (within_fn _ _ _) rfl rfl rfl) (And.intro (fun hf => rfl) (And.intro rfl (And.intro trivial ?_)))))
      repeat refine And.intro (by first | exact fun h => h | exact fun _ => rfl | (intro h; rw [h]; rfl) | omega | (intros; (try dsimp only [Ty.T, Ty.size]); (try simp only [castL_self, Int.toNat_natCast, Int.toNat_zero, Int.toNat_one, true_and, List.length_append, List.length_set, List.length_drop, List.length_take, List.length_replicate, List.length_cons, List.length_nil, Nat.zero_add, Nat.mul_one]); omega) | decide | (intros; simp_all; done) | (intros; simp_all; omega)) ?_
      refine hK11 _ _ ?_
      clear hK11
      first | refine AWPD.cond rfl (fun h2 => ?_) (fun h2 => ?_)
      · try dsimp only [Ty.T] at h2
        try simp only [castL_self] at h2
        try simp only [Int.toNat_natCast] at h2
        try simp only [Int.toNat_zero] at h2
        have h2 : ¬(inV (l.getD i (0, 0)).1 ∧ inV (l.getD i (0, 0)).2) := wld_t h2
        refine AWPD.seq fun K12 hK12 => ?_
        -- region 7
        refine AWPD.keep [] rfl ?_
        refine AWPD.region tabOK rfl ?_
        repeat refine And.intro (by first | exact fun h => h | exact fun _ => rfl | (intro h; rw [h]; rfl) | omega | (intros; (try dsimp only [Ty.T, Ty.size]); (try simp only [castL_self, Int.toNat_natCast, Int.toNat_zero, Int.toNat_one, true_and, List.length_append, List.length_set, List.length_drop, List.length_take, List.length_replicate, List.length_cons, List.length_nil, Nat.zero_add, Nat.mul_one]); omega) | decide | (intros; simp_all; done) | (intros; simp_all; omega)) ?_
        refine hK12 _ _ ?_
        clear hK12
        refine AWPD.ret (And.intro (.inl rfl) ?_)
        -- result 1
        refine RetD.one ?_
        exact fitE rfl (by unfold wldE; rw [if_neg (by omega), if_neg (fun h => h2 (h i hil))])
      · try dsimp only [Ty.T] at h2
        try simp only [castL_self] at h2
        try simp only [Int.toNat_natCast] at h2
        try simp only [Int.toNat_zero] at h2
        have h2 : inV (l.getD i (0, 0)).1 ∧ inV (l.getD i (0, 0)).2 := wld_f h2
        refine AWPD.skip ?_
        refine hK9 _ _ ?_
        clear hK9
        -- region 8
        refine AWPD.keep [9, 10, 11] rfl ?_
        refine AWPD.region tabOK rfl ?_
        repeat refine And.intro (by first | exact fun h => h | exact fun _ => rfl | (intro h; rw [h]; rfl) | omega | (intros; (try dsimp only [Ty.T, Ty.size]); (try simp only [castL_self, Int.toNat_natCast, Int.toNat_zero, Int.toNat_one, true_and, List.length_append, List.length_set, List.length_drop, List.length_take, List.length_replicate, List.length_cons, List.length_nil, Nat.zero_add, Nat.mul_one]); omega) | decide | (intros; simp_all; done) | (intros; simp_all; omega)) ?_
        refine ⟨n0 - 1, i + 1, [], by omega, ⟨by omega, fun j hj => by
            rcases Nat.lt_or_ge j i with h | h
            · exact hv0 j h
            · rw [show j = i by omega]; exact h2⟩, ⟨by decide, rfl⟩, trivial, ?_⟩
        repeat' first | exact True.intro | exact rfl | exact ⟨rfl, rfl⟩ | refine And.intro ?_ ?_
    · try dsimp only [Ty.T] at h1
      try simp only [castL_self] at h1
      try simp only [Int.toNat_natCast] at h1
      try simp only [Int.toNat_zero] at h1
      have hil : i = l.length := by omega
      refine AWPD.exit ?_
      refine hK5 _ _ ?_
      clear hK5
      refine AWPD.seq fun K13 hK13 => ?_
      -- region 9
      refine AWPD.keep [] rfl ?_
      refine AWPD.region tabOK rfl ?_
      refine hK13 _ _ ?_
      clear hK13
      refine AWPD.ret (And.intro (.inl rfl) ?_)
      -- result 2
      refine RetD.one ?_
      exact fitE rfl (by unfold wldE; rw [if_neg (by omega), if_pos (fun j hj => hv0 j (by omega))])
theorem column_fn (l : List (Int × Int)) (k : Int) (hl : l.length ≤ 1000000) (hk : 0 ≤ k ∧ k ≤ 1) : LiftsD Try.prog 17 [.sl .two l, .i k] (.sl .int (colV l k)) := by
  refine LiftsD.of_body 25 [.tmp 4] Try.func17 rfl Try.ntmps17 (by kernel_rfl) rfl rfl fun w0 X0 => ?_
  refine AWPD.seq fun K1 hK1 => ?_
  -- region 0
  refine AWPD.keep [0, 1] rfl ?_
  refine AWPD.region tabOK rfl ?_
  refine hK1 _ _ ?_
  clear hK1
  refine AWPD.seq fun K2 hK2 => ?_
  -- region 1
  refine AWPD.keep [0, 1] rfl ?_
  refine AWPD.region tabOK rfl ?_
  refine hK2 _ _ ?_
  clear hK2
  refine AWPD.seq fun K3 hK3 => ?_
  refine AWPD.seq fun K4 hK4 => ?_
  -- region 2
  refine AWPD.keep [0, 1, 5] rfl ?_
  refine AWPD.region tabOK rfl ?_
  refine hK4 _ _ ?_
  clear hK4
  refine AWPD.block ?_
  -- LOOP 0 live [1, 5, 8, 9, 10] changed [5, 10]
  refine AWPD.nilRow 5 3 .int rfl (by decide) ?_
  refine AWPD.loopK (σ := Nat) [1, 8, 9] (fun i base => (5, .ob 0) :: (10, .i (i : Int)) :: base) (fun i => [.row 3 .int (colP l k i)]) (fun n i => n + i = l.length) (l.length) 0 [0] rfl rfl (by omega) (by decide) ⟨⟨rfl, rfl, rfl⟩, trivial⟩ (by repeat' first | exact True.intro | exact rfl | exact ⟨rfl, rfl⟩ | refine And.intro ?_ ?_) fun n0 i hI0 => ?_
  have hn0 := hI0
  have hcl := colP_len l k i
  refine AWPD.seq fun K5 hK5 => ?_
  -- region 3
  refine AWPD.keep [1, 5, 8, 9, 10] rfl ?_
  refine AWPD.region tabOK rfl ?_
  refine hK5 _ _ ?_
  clear hK5
  refine AWPD.seq fun K6 hK6 => ?_
  first | refine AWPD.condP rfl (fun h0 => ?_) (fun h0 => ?_) | refine AWPD.condN rfl (fun h0 => ?_) (fun h0 => ?_) | refine AWPD.condAP rfl (fun h0 => ?_) (fun h0 => ?_) | refine AWPD.condOP rfl (fun h0 => ?_) (fun h0 => ?_) | refine AWPD.condONN rfl (fun h0 => ?_) (fun h0 => ?_) | refine AWPD.condOPN rfl (fun h0 => ?_) (fun h0 => ?_) | refine AWPD.condA rfl (fun h0 => ?_) (fun h0 => ?_) | refine AWPD.condO rfl (fun h0 => ?_) (fun h0 => ?_) | refine AWPD.cond rfl (fun h0 => ?_) (fun h0 => ?_)
  · try dsimp only [Ty.T] at h0
    try simp only [castL_self] at h0
    try simp only [Int.toNat_natCast] at h0
    try simp only [Int.toNat_zero] at h0
    refine AWPD.skip ?_
    refine hK6 _ _ ?_
    clear hK6
    refine AWPD.seq fun K7 hK7 => ?_
    refine AWPD.block ?_
    refine AWPD.seq fun K8 hK8 => ?_
    -- region 4
    refine AWPD.keep [1, 5, 8, 9, 10] rfl ?_
    refine AWPD.region tabOK rfl ?_
    repeat refine And.intro (by first | exact fun h => h | exact fun _ => rfl | (intro h; rw [h]; rfl) | omega | (intros; (try dsimp only [Ty.T, Ty.size]); (try simp only [castL_self, Int.toNat_natCast, Int.toNat_zero, Int.toNat_one, true_and, List.length_append, List.length_set, List.length_drop, List.length_take, List.length_replicate, List.length_cons, List.length_nil, Nat.zero_add, Nat.mul_one]); omega) | decide | (intros; simp_all; done) | (intros; simp_all; omega)) ?_
    refine hK8 _ _ ?_
    clear hK8
    -- region 5
    refine AWPD.keep [1, 5, 7, 8, 9, 10] rfl ?_
    refine AWPD.region tabOK rfl ?_
    repeat refine And.intro (by first | exact fun h => h | exact fun _ => rfl | (intro h; rw [h]; rfl) | omega | (intros; (try dsimp only [Ty.T, Ty.size]); (try simp only [castL_self, Int.toNat_natCast, Int.toNat_zero, Int.toNat_one, true_and, List.length_append, List.length_set, List.length_drop, List.length_take, List.length_replicate, List.length_cons, List.length_nil, Nat.zero_add, Nat.mul_one]); omega) | decide | (intros; simp_all; done) | (intros; simp_all; omega)) ?_
    refine hK7 _ _ ?_
    clear hK7
    -- region 6
    refine AWPD.keep [1, 5, 8, 9, 10] rfl ?_
    refine AWPD.region tabOK rfl ?_
    repeat refine And.intro (by first | exact fun h => h | exact fun _ => rfl | (intro h; rw [h]; rfl) | omega | (intros; (try dsimp only [Ty.T, Ty.size]); (try simp only [castL_self, Int.toNat_natCast, Int.toNat_zero, Int.toNat_one, true_and, List.length_append, List.length_set, List.length_drop, List.length_take, List.length_replicate, List.length_cons, List.length_nil, Nat.zero_add, Nat.mul_one]); omega) | decide | (intros; simp_all; done) | (intros; simp_all; omega)) ?_
    refine ⟨n0 - 1, i + 1, [2], by omega, by omega, ⟨by decide, rfl⟩, ⟨⟨rfl, rfl, (by rw [← colP_app]; rfl)⟩, trivial⟩, ?_⟩
    repeat' first | exact True.intro | exact rfl | exact ⟨rfl, rfl⟩ | refine And.intro ?_ ?_
  · try dsimp only [Ty.T] at h0
    try simp only [castL_self] at h0
    try simp only [Int.toNat_natCast] at h0
    try simp only [Int.toNat_zero] at h0
    have hil : i = l.length := by omega
    have hca := colP_all l k
    refine AWPD.exit ?_
    refine hK3 _ _ ?_
    clear hK3
    refine AWPD.seq fun K9 hK9 => ?_
    -- region 7
    refine AWPD.keep [5] rfl ?_
    refine AWPD.region tabOK rfl ?_
    refine Exists.intro _ (Exists.intro _ (And.intro (StepD.sortI sortsI_ok rfl rfl (by rw [colP_len]; omega)) (And.intro rfl (And.intro trivial ?_))))
    refine hK9 _ _ ?_
    clear hK9
    refine AWPD.seq fun K10 hK10 => ?_
    -- region 8
    refine AWPD.keep [5] rfl ?_
    refine AWPD.region tabOK rfl ?_
    refine Exists.intro _ (Exists.intro _ (And.intro (StepD.compactI rfl compactsI_ok rfl rfl) (And.intro rfl (And.intro trivial ?_))))
    refine hK10 _ _ ?_
    clear hK10
    refine AWPD.ret (And.intro (.inl rfl) ?_)
    -- result 0
    refine RetD.one ?_
    exact ⟨rfl, (by unfold colV; rw [← hca, ← hil]; rfl)⟩
theorem index_fn (l : List (Int × Int)) (q : Int × Int) (hl : l.length ≤ 1000000) : LiftsD Try.prog 26 [.sl .two l, .agg [.i q.1, .i q.2]] (.i (posV l q)) := by
  refine LiftsD.of_body 19 [.tmp 4] Try.func26 rfl Try.ntmps26 (by kernel_rfl) rfl rfl fun w0 X0 => ?_
  refine AWPD.seq fun K1 hK1 => ?_
  -- region 0
  refine AWPD.keep [0, 1] rfl ?_
  refine AWPD.region tabOK rfl ?_
  refine hK1 _ _ ?_
  clear hK1
  refine AWPD.seq fun K2 hK2 => ?_
  refine AWPD.seq fun K3 hK3 => ?_
  -- region 1
  refine AWPD.keep [0, 3] rfl ?_
  refine AWPD.region tabOK rfl ?_
  refine hK3 _ _ ?_
  clear hK3
  refine AWPD.block ?_
  -- LOOP 0 live [0, 3, 7, 8] changed [8]
  refine AWPD.loopK (σ := Nat) [0, 3, 7] (fun i base => (8, .i (i : Int)) :: base) (fun _ => []) (fun n i => n + i = l.length ∧ ∀ j, j < i → l.getD j (0, 0) ≠ q) (l.length) 0 [] rfl rfl (⟨by omega, by intro j hj; omega⟩) (by decide) trivial (by repeat' first | exact True.intro | exact rfl | exact ⟨rfl, rfl⟩ | refine And.intro ?_ ?_) fun n0 i hI0 => ?_
  obtain ⟨hn0, hv0⟩ := hI0
  refine AWPD.seq fun K4 hK4 => ?_
  -- region 2
  refine AWPD.keep [0, 3, 7, 8] rfl ?_
  refine AWPD.region tabOK rfl ?_
  refine hK4 _ _ ?_
  clear hK4
  refine AWPD.seq fun K5 hK5 => ?_
  first | refine AWPD.condP rfl (fun h0 => ?_) (fun h0 => ?_) | refine AWPD.condN rfl (fun h0 => ?_) (fun h0 => ?_) | refine AWPD.condAP rfl (fun h0 => ?_) (fun h0 => ?_) | refine AWPD.condOP rfl (fun h0 => ?_) (fun h0 => ?_) | refine AWPD.condONN rfl (fun h0 => ?_) (fun h0 => ?_) | refine AWPD.condOPN rfl (fun h0 => ?_) (fun h0 => ?_) | refine AWPD.condA rfl (fun h0 => ?_) (fun h0 => ?_) | refine AWPD.condO rfl (fun h0 => ?_) (fun h0 => ?_) | refine AWPD.cond rfl (fun h0 => ?_) (fun h0 => ?_)
  · try dsimp only [Ty.T] at h0
    try simp only [castL_self] at h0
    try simp only [Int.toNat_natCast] at h0
    try simp only [Int.toNat_zero] at h0
    have hil : i < l.length := by omega
    refine AWPD.skip ?_
    refine hK5 _ _ ?_
    clear hK5
    refine AWPD.seq fun K6 hK6 => ?_
    refine AWPD.block ?_
    refine AWPD.seq fun K7 hK7 => ?_
    -- region 3
    refine AWPD.keep [0, 3, 7, 8] rfl ?_
    refine AWPD.region tabOK rfl ?_
    refine hK7 _ _ ?_
    clear hK7
    refine AWPD.seq fun K8 hK8 => ?_
    -- region 4
    refine AWPD.keep [0, 3, 5, 7, 8] rfl ?_
    refine AWPD.draw tabOK [] rfl (by kernel_rfl) ?_
    repeat refine And.intro (by first | exact fun h => h | exact fun _ => rfl | (intro h; rw [h]; rfl) | omega | (intros; (try dsimp only [Ty.T, Ty.size]); (try simp only [castL_self, Int.toNat_natCast, Int.toNat_zero, Int.toNat_one, true_and, List.length_append, List.length_set, List.length_drop, List.length_take, List.length_replicate, List.length_cons, List.length_nil, Nat.zero_add, Nat.mul_one]); omega) | decide | (intros; simp_all; done) | (intros; simp_all; omega)) ?_
    refine hK8 _ _ ?_
    clear hK8
    first | refine AWPD.cond rfl (fun h1 => ?_) (fun h1 => ?_)
    · try dsimp only [Ty.T] at h1
      try simp only [castL_self] at h1
      try simp only [Int.toNat_natCast] at h1
      try simp only [Int.toNat_zero] at h1
      have h1 : l.getD i (0, 0) = q := by
        simp at h1
        exact Prod.ext h1.1.symm h1.2.symm
      refine AWPD.seq fun K9 hK9 => ?_
      -- region 5
      refine AWPD.keep [5] rfl ?_
      refine AWPD.region tabOK rfl ?_
      refine hK9 _ _ ?_
      clear hK9
      refine AWPD.ret (And.intro (.inl rfl) ?_)
      -- result 0
      refine RetD.one ?_
      exact fitI rfl (posV_at hv0 hil h1).symm
    · try dsimp only [Ty.T] at h1
      try simp only [castL_self] at h1
      try simp only [Int.toNat_natCast] at h1
      try simp only [Int.toNat_zero] at h1
      have h1 : l.getD i (0, 0) ≠ q := fun he => of_decide_eq_false h1 (by rw [he])
      refine AWPD.skip ?_
      refine hK6 _ _ ?_
      clear hK6
      -- region 6
      refine AWPD.keep [0, 3, 7, 8] rfl ?_
      refine AWPD.region tabOK rfl ?_
      repeat refine And.intro (by first | exact fun h => h | exact fun _ => rfl | (intro h; rw [h]; rfl) | omega | (intros; (try dsimp only [Ty.T, Ty.size]); (try simp only [castL_self, Int.toNat_natCast, Int.toNat_zero, Int.toNat_one, true_and, List.length_append, List.length_set, List.length_drop, List.length_take, List.length_replicate, List.length_cons, List.length_nil, Nat.zero_add, Nat.mul_one]); omega) | decide | (intros; simp_all; done) | (intros; simp_all; omega)) ?_
      refine ⟨n0 - 1, i + 1, [], by omega, ⟨by omega, fun j hj => by
          rcases Nat.lt_or_ge j i with h | h
          · exact hv0 j h
          · rw [show j = i by omega]; exact h1⟩, ⟨by decide, rfl⟩, trivial, ?_⟩
      repeat' first | exact True.intro | exact rfl | exact ⟨rfl, rfl⟩ | refine And.intro ?_ ?_
  · try dsimp only [Ty.T] at h0
    try simp only [castL_self] at h0
    try simp only [Int.toNat_natCast] at h0
    try simp only [Int.toNat_zero] at h0
    have hil : i = l.length := by omega
    refine AWPD.exit ?_
    refine hK2 _ _ ?_
    clear hK2
    refine AWPD.seq fun K10 hK10 => ?_
    -- region 7
    refine AWPD.keep [] rfl ?_
    refine AWPD.region tabOK rfl ?_
    refine hK10 _ _ ?_
    clear hK10
    refine AWPD.ret (And.intro (.inl rfl) ?_)
    -- result 1
    refine RetD.one ?_
    exact fitI rfl (posV_no (fun j hj => hv0 j (by omega))).symm
theorem contains_fn (l : List (Int × Int)) (q : Int × Int) (hl : l.length ≤ 1000000) : LiftsD Try.prog 18 [.sl .two l, .agg [.i q.1, .i q.2]] (.b (decide (q ∈ l))) := by
  refine LiftsD.of_body 9 [.tmp 4] Try.func18 rfl Try.ntmps18 (by kernel_rfl) rfl rfl fun w0 X0 => ?_
  refine AWPD.seq fun K1 hK1 => ?_
  -- region 0
  refine AWPD.keep [0, 1] rfl ?_
  refine AWPD.region tabOK rfl ?_
  refine hK1 _ _ ?_
  clear hK1
  refine AWPD.seq fun K2 hK2 => ?_
  -- region 1
  refine AWPD.keep [0, 3] rfl ?_
  refine AWPD.region tabOK rfl ?_
  repeat refine And.intro (by first | exact fun h => h | exact fun _ => rfl | (intro h; rw [h]; rfl) | omega | (intros; (try dsimp only [Ty.T, Ty.size]); (try simp only [castL_self, Int.toNat_natCast, Int.toNat_zero, Int.toNat_one, true_and, List.length_append, List.length_set, List.length_drop, List.length_take, List.length_replicate, List.length_cons, List.length_nil, Nat.zero_add, Nat.mul_one]); omega) | decide | (intros; simp_all; done) | (intros; simp_all; omega)) ?_
  refine Exists.intro _ (Exists.intro _ (And.intro (StepD.call (index_fn l q hl) rfl rfl rfl) (And.intro rfl (And.intro trivial ?_))))
  refine hK2 _ _ ?_
  clear hK2
  refine AWPD.ret (And.intro (.inl rfl) ?_)
  -- result 0
  refine RetD.one ?_
  exact fitB rfl posV_mem
end Go.Proofs.Ytkncfjcmhaaafaa
