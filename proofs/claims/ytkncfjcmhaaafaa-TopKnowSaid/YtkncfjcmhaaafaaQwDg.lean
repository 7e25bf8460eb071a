/-
  WALKS of the laws DeduceTurned, DeduceBlind, DeduceMix. Laid by a program of mine out of the operations, with the loops and results told by hand.
-/
import Derived.Test.YtkncfjcmhaaafaaQwDf
namespace Go.Proofs.Ytkncfjcmhaaafaa
open Go Go.Qw
set_option maxRecDepth 10000
set_option linter.unusedSimpArgs false
set_option linter.unusedVariables false
set_option linter.unusedSectionVars false


theorem sort_of {xs : List Int} (h : List.Pairwise (fun a b => decide (a ≤ b) = true) xs) : sortI xs = xs := List.mergeSort_of_pairwise h
theorem dcol0 : colV [(1, 5), (2, 6)] 0 = [1, 2] := by
  unfold colV
  rw [show ([((1 : Int), (5 : Int)), (2, 6)].map (pickC 0)) = [1, 2] from rfl, sort_of (by decide)]
  decide
theorem dcol1 : colV [(1, 5), (2, 6)] 1 = [5, 6] := by
  unfold colV
  rw [show ([((1 : Int), (5 : Int)), (2, 6)].map (pickC 1)) = [5, 6] from rfl, sort_of (by decide)]
  decide
theorem dmis : misV [(1, 5), (2, 6)] = [(1, 6), (2, 5)] := by
  unfold misV
  rw [dcol0, dcol1]
  decide
theorem dwld : wldE [(1, 5), (2, 6)] = 0 := by decide
theorem dfact1 : blindB [(1, 5), (2, 6)] = false := by unfold blindB; rw [dmis]; decide
theorem dfact2 : blindL [(1, 5), (2, 6)] = [1, 6] := by unfold blindL; rw [dmis, dwld]; rfl
/-- Turned. -/
def swapQ (q : Int × Int) : Int × Int := (q.2, q.1)
def turnL (l : List (Int × Int)) (i : Nat) : List (Int × Int) := (List.range i).map fun j => swapQ (l.getD j (0, 0))
theorem turnL_len (l : List (Int × Int)) (i : Nat) : (turnL l i).length = i := by simp [turnL]
theorem turnL_app (l : List (Int × Int)) (i : Nat) : turnL l i ++ [swapQ (l.getD i (0, 0))] = turnL l (i + 1) := by simp [turnL, List.range_succ]
theorem turnL_all (l : List (Int × Int)) : turnL l l.length = l.map swapQ := by
  unfold turnL
  refine List.ext_getElem (by simp) fun j h1 h2 => ?_
  have : j < l.length := by simpa using h2
  simp [List.getD, this]
theorem swap_mem {l : List (Int × Int)} {q : Int × Int} : q ∈ l.map swapQ ↔ swapQ q ∈ l := by
  rw [List.mem_map]
  constructor
  · rintro ⟨r, h, rfl⟩; exact h
  · intro h; exact ⟨swapQ q, h, rfl⟩
theorem wld_iff {l : List (Int × Int)} : wldE l = 0 ↔ l.length ≤ 40 ∧ ∀ q, q ∈ l → inV q.1 ∧ inV q.2 := by
  constructor
  · intro h
    have := wld_ok h
    refine ⟨this.1, fun q hq => ?_⟩
    obtain ⟨j, hj, rfl⟩ := List.getElem_of_mem hq
    have := this.2 j hj
    simpa [List.getD, hj] using this
  · rintro ⟨h1, h2⟩
    unfold wldE
    rw [if_neg (by omega), if_pos fun j hj => h2 _ (getD_mem hj (0, 0))]
theorem wld_turn {l : List (Int × Int)} : wldE (l.map swapQ) = 0 ↔ wldE l = 0 := by
  rw [wld_iff, wld_iff, List.length_map]
  constructor
  · rintro ⟨h1, h2⟩
    exact ⟨h1, fun q hq => (h2 (swapQ q) (swap_mem.2 hq)).symm⟩
  · rintro ⟨h1, h2⟩
    exact ⟨h1, fun q hq => (h2 (swapQ q) (swap_mem.1 hq)).symm⟩
theorem mis_nil {l : List (Int × Int)} : misV l = [] ↔ ∀ a b, a ∈ l → b ∈ l → (a.1, b.2) ∈ l := by
  rw [List.eq_nil_iff_forall_not_mem]
  constructor
  · intro h a b ha hb
    refine Decidable.byContradiction fun hn => ?_
    exact h (a.1, b.2) (misV_mem.2 ⟨⟨a, ha, rfl⟩, ⟨b, hb, rfl⟩, hn⟩)
  · rintro h q hq
    obtain ⟨⟨a, ha, e1⟩, ⟨b, hb, e2⟩, hn⟩ := misV_mem.1 hq
    have := h a b ha hb
    rw [e1, e2] at this
    exact hn this
theorem mis_turn {l : List (Int × Int)} : misV (l.map swapQ) = [] ↔ misV l = [] := by
  rw [mis_nil, mis_nil]
  constructor
  · intro h a b ha hb
    have := h (swapQ b) (swapQ a) (swap_mem.2 hb) (swap_mem.2 ha)
    exact swap_mem.1 this
  · intro h a b ha hb
    exact swap_mem.2 (h (swapQ b) (swapQ a) (swap_mem.1 hb) (swap_mem.1 ha))
theorem blind_turn {l : List (Int × Int)} : blindB (l.map swapQ) = blindB l := by
  unfold blindB
  rw [decide_eq_decide.2 (wld_turn (l := l)), decide_eq_decide.2 (mis_turn (l := l))]
/-- What is left, when one sees something. -/
theorem leftP_mem {l : List (Int × Int)} {s : Int} {q : Int × Int} : ∀ {i}, i ≤ l.length → (q ∈ leftP l s i ↔ q.2 = s ∧ ∃ j, j < i ∧ q = l.getD j (0, 0))
  | 0, _ => by simp [leftP]
  | i + 1, hi => by
    have ih := leftP_mem (l := l) (s := s) (q := q) (i := i) (by omega)
    rw [leftP]
    split
    · rename_i hs
      rw [List.mem_append, ih, List.mem_singleton]
      constructor
      · rintro (⟨h1, j, h2, h3⟩ | h1)
        · exact ⟨h1, j, by omega, h3⟩
        · exact ⟨by rw [h1]; exact hs, i, by omega, h1⟩
      · rintro ⟨h1, j, h2, h3⟩
        by_cases he : j = i
        · subst he; exact .inr h3
        · exact .inl ⟨h1, j, by omega, h3⟩
    · rename_i hs
      rw [ih]
      constructor
      · rintro ⟨h1, j, h2, h3⟩; exact ⟨h1, j, by omega, h3⟩
      · rintro ⟨h1, j, h2, h3⟩
        by_cases he : j = i
        · subst he; rw [h3] at h1; exact absurd h1 hs
        · exact ⟨h1, j, by omega, h3⟩
theorem leftV_mem {l : List (Int × Int)} {s y : Int} (h : wldE l = 0) : y ∈ leftV l s ↔ (y, s) ∈ l := by
  unfold leftV
  rw [if_pos h, colV_mem]
  constructor
  · rintro ⟨q, hq, rfl⟩
    obtain ⟨h1, j, h2, h3⟩ := (leftP_mem (Nat.le_refl _)).1 hq
    have hm := getD_mem h2 (0, 0)
    rw [← h3] at hm
    rw [← h1]
    exact hm
  · intro hm
    obtain ⟨j, hj, he⟩ := List.getElem_of_mem hm
    exact ⟨(y, s), (leftP_mem (Nat.le_refl _)).2 ⟨rfl, j, hj, by simp [List.getD, hj, he]⟩, rfl⟩
theorem leftV_len {l : List (Int × Int)} {s : Int} : (leftV l s).length ≤ l.length := by
  unfold leftV
  split
  · exact Nat.le_trans (colV_len _ _) (leftP_len l s l.length)
  · simp
/-- All that is hidden may be, whatever is seen: so far. -/
def hereV (x : List Int) (y : Int) : Nat → Bool
  | 0 => false
  | k + 1 => hereV x y k || decide (x.getD k 0 = y)
theorem hereV_iff {x : List Int} {y : Int} : ∀ {k}, hereV x y k = true ↔ ∃ a, a < k ∧ x.getD a 0 = y
  | 0 => by simp [hereV]
  | k + 1 => by
    rw [hereV, Bool.or_eq_true, hereV_iff (k := k), decide_eq_true_eq]
    constructor
    · rintro (⟨a, h1, h2⟩ | h1)
      · exact ⟨a, by omega, h2⟩
      · exact ⟨k, by omega, h1⟩
    · rintro ⟨a, h1, h2⟩
      by_cases he : a = k
      · subst he; exact .inr h2
      · exact .inl ⟨a, by omega, h2⟩
def allJ (l : List (Int × Int)) (x : List Int) (b : Bool) : Nat → Bool
  | 0 => b
  | j + 1 => allJ l x b j && hereV x (l.getD j (0, 0)).1 x.length
def allI (l : List (Int × Int)) : Nat → Bool
  | 0 => true
  | i + 1 => allJ l (leftV l (l.getD i (0, 0)).2) (allI l i) l.length
theorem allJ_iff {l : List (Int × Int)} {x : List Int} {b : Bool} : ∀ {j}, allJ l x b j = true ↔ b = true ∧ ∀ a, a < j → (l.getD a (0, 0)).1 ∈ x
  | 0 => by simp [allJ]
  | j + 1 => by
    rw [allJ, Bool.and_eq_true, allJ_iff (j := j), hereV_iff]
    have hm : (∃ a, a < x.length ∧ x.getD a 0 = (l.getD j (0, 0)).1) ↔ (l.getD j (0, 0)).1 ∈ x := by
      rw [mem_getD]
      exact ⟨fun ⟨a, h1, h2⟩ => ⟨a, h1, h2.symm⟩, fun ⟨a, h1, h2⟩ => ⟨a, h1, h2.symm⟩⟩
    rw [hm]
    constructor
    · rintro ⟨⟨h1, h2⟩, h3⟩
      refine ⟨h1, fun a ha => ?_⟩
      by_cases he : a = j
      · subst he; exact h3
      · exact h2 a (by omega)
    · rintro ⟨h1, h2⟩
      exact ⟨⟨h1, fun a ha => h2 a (by omega)⟩, h2 j (by omega)⟩
theorem allI_iff {l : List (Int × Int)} (h : wldE l = 0) : ∀ {i}, i ≤ l.length → (allI l i = true ↔ ∀ a b, a < i → b < l.length → ((l.getD b (0, 0)).1, (l.getD a (0, 0)).2) ∈ l)
  | 0, _ => ⟨fun _ a b ha => by omega, fun _ => rfl⟩
  | i + 1, hi => by
    rw [allI, allJ_iff, allI_iff h (i := i) (by omega)]
    constructor
    · rintro ⟨h1, h2⟩ a b ha hb
      by_cases he : a = i
      · subst he; exact (leftV_mem h).1 (h2 b hb)
      · exact h1 a b (by omega) hb
    · intro hh
      exact ⟨fun a b ha hb => hh a b (by omega) hb, fun b hb => (leftV_mem h).2 (hh i b (by omega) hb)⟩
theorem blind_all {l : List (Int × Int)} (h : wldE l = 0) : blindB l = allI l l.length := by
  unfold blindB
  rw [decide_eq_true h, Bool.true_and, Bool.eq_iff_iff, decide_eq_true_eq, allI_iff h (Nat.le_refl _), mis_nil]
  constructor
  · intro hh a b ha hb
    exact hh _ _ (getD_mem hb (0, 0)) (getD_mem ha (0, 0))
  · intro hh a b ha hb
    obtain ⟨i, hi, rfl⟩ := List.getElem_of_mem ha
    obtain ⟨j, hj, rfl⟩ := List.getElem_of_mem hb
    have := hh j i hj hi
    simpa [List.getD, hi, hj] using this
def mostV (l : List (Int × Int)) : Nat → Int
  | 0 => 0
  | i + 1 => if mostV l i < ((leftV l (l.getD i (0, 0)).2).length : Int) then ((leftV l (l.getD i (0, 0)).2).length : Int) else mostV l i
theorem mostV_in (l : List (Int × Int)) : ∀ i, 0 ≤ mostV l i ∧ mostV l i ≤ l.length
  | 0 => by simp [mostV]
  | i + 1 => by
    have ih := mostV_in l i
    have := leftV_len (l := l) (s := (l.getD i (0, 0)).2)
    rw [mostV]
    split <;> omega
theorem left_some {l : List (Int × Int)} (h : wldE l = 0) {i : Nat} (hi : i < l.length) : (leftV l (l.getD i (0, 0)).2).length ≠ 0 := by
  intro h0
  have hm : (l.getD i (0, 0)).1 ∈ leftV l (l.getD i (0, 0)).2 := (leftV_mem h).2 (getD_mem hi (0, 0))
  rw [List.eq_nil_of_length_eq_zero h0] at hm
  cases hm
/-- Mixed. -/
theorem mixE_ok {l : List (Int × Int)} (h : mixE l = 0) : wldE l = 0 ∧ l.length + (misV l).length ≤ 40 ∧ mixV l = misV l := by
  have h0 := h
  unfold mixE at h
  split at h
  · rename_i h1
    split at h
    · cases h
    · exact ⟨h1, by omega, by unfold mixV; rw [if_pos h0]⟩
  · rename_i h1; exact absurd h h1
theorem mix_wld {l : List (Int × Int)} (h : wldE l = 0) (hl : l.length + (misV l).length ≤ 40) : wldE (l ++ misV l) = 0 := by
  rw [wld_iff] at h ⊢
  refine ⟨by rw [List.length_append]; exact hl, fun q hq => ?_⟩
  rcases List.mem_append.1 hq with h1 | h1
  · exact h.2 q h1
  · obtain ⟨⟨a, ha, e1⟩, ⟨b, hb, e2⟩, _⟩ := misV_mem.1 h1
    rw [← e1, ← e2]
    exact ⟨(h.2 a ha).1, (h.2 b hb).2⟩
theorem mix_blind {l : List (Int × Int)} : misV (l ++ misV l) = [] := by
  rw [mis_nil]
  have key : ∀ q, q ∈ l ++ misV l → (∃ r, r ∈ l ∧ r.1 = q.1) ∧ ∃ r, r ∈ l ∧ r.2 = q.2 := fun q hq => by
    rcases List.mem_append.1 hq with h | h
    · exact ⟨⟨q, h, rfl⟩, ⟨q, h, rfl⟩⟩
    · obtain ⟨h1, h2, _⟩ := misV_mem.1 h
      exact ⟨h1, h2⟩
  intro a b ha hb
  by_cases hm : (a.1, b.2) ∈ l
  · exact List.mem_append_left _ hm
  · exact List.mem_append_right _ (misV_mem.2 ⟨(key a ha).1, (key b hb).2, hm⟩)

theorem deduceFact_fn  : LiftsD Try.prog 7 [] (.b true) := by
  refine LiftsD.of_body 23 [.tmp 0] Try.func7 rfl Try.ntmps7 (by kernel_rfl) rfl rfl fun w0 X0 => ?_
  refine AWPD.seq fun K1 hK1 => ?_
  -- region 0
  refine AWPD.keep [] rfl ?_
  refine AWPD.region tabOK rfl ?_
  refine hK1 _ _ ?_
  clear hK1
  refine AWPD.seq fun K2 hK2 => ?_
  -- region 1
  refine AWPD.keep [] rfl ?_
  refine AWPD.region tabOK rfl ?_
  refine Exists.intro _ (Exists.intro _ (And.intro (StepD.call (blind_fn _) rfl rfl rfl) (And.intro rfl (And.intro trivial ?_))))
  refine hK2 _ _ ?_
  clear hK2
  refine AWPD.seq fun K3 hK3 => ?_
  -- region 2
  rw [dfact1, dfact2, dwld]
  refine AWPD.keep [1, 2, 3] rfl ?_
  refine AWPD.region tabOK rfl ?_
  repeat refine And.intro (by first | exact fun h => h | exact fun _ => rfl | (intro h; rw [h]; rfl) | omega | (intros; (try dsimp only [Ty.T, Ty.size]); (try simp only [castL_self, Int.toNat_natCast, Int.toNat_zero, Int.toNat_one, true_and, List.length_append, List.length_set, List.length_drop, List.length_take, List.length_replicate, List.length_cons, List.length_nil, Nat.zero_add, Nat.mul_one]); omega) | decide | (intros; simp_all; done) | (intros; simp_all; omega)) ?_
  refine Exists.intro _ (Exists.intro _ (And.intro (fun hg => StepD.call (ints_fn [1, 6] [1, 6] (by decide)) rfl rfl rfl) (And.intro (fun hf => rfl) (And.intro rfl (And.intro trivial ?_)))))
  repeat refine And.intro (by first | exact fun h => h | exact fun _ => rfl | (intro h; rw [h]; rfl) | omega | (intros; (try dsimp only [Ty.T, Ty.size]); (try simp only [castL_self, Int.toNat_natCast, Int.toNat_zero, Int.toNat_one, true_and, List.length_append, List.length_set, List.length_drop, List.length_take, List.length_replicate, List.length_cons, List.length_nil, Nat.zero_add, Nat.mul_one]); omega) | decide | (intros; simp_all; done) | (intros; simp_all; omega)) ?_
  refine hK3 _ _ ?_
  clear hK3
  refine AWPD.ret (And.intro (.inl rfl) ?_)
  -- result 0
  refine RetD.one ?_
  refine fitB rfl ?_
  rfl
theorem deduceTurned_fn (l : List (Int × Int)) (hl : l.length ≤ 8796093021952) : LiftsD Try.prog 3 [.sl .two l] (.b true) := by
  refine LiftsD.of_body 57 [.tmp 2] Try.func3 rfl Try.ntmps3 (by kernel_rfl) rfl rfl fun w0 X0 => ?_
  refine AWPD.seq fun K1 hK1 => ?_
  -- region 0
  refine AWPD.keep [0] rfl ?_
  refine AWPD.region tabOK rfl ?_
  refine hK1 _ _ ?_
  clear hK1
  refine AWPD.seq fun K2 hK2 => ?_
  -- region 1
  refine AWPD.keep [0] rfl ?_
  refine AWPD.region tabOK rfl ?_
  refine Exists.intro _ (Exists.intro _ (And.intro (StepD.call (deduceFact_fn) rfl rfl rfl) (And.intro rfl (And.intro trivial ?_))))
  refine hK2 _ _ ?_
  clear hK2
  refine AWPD.seq fun K3 hK3 => ?_
  refine AWPD.seq fun K4 hK4 => ?_
  -- region 2
  refine AWPD.keep [0, 3] rfl ?_
  refine AWPD.region tabOK rfl ?_
  refine hK4 _ _ ?_
  clear hK4
  first | refine AWPD.condP rfl (fun h0 => ?_) (fun h0 => ?_) | refine AWPD.condN rfl (fun h0 => ?_) (fun h0 => ?_) | refine AWPD.condAP rfl (fun h0 => ?_) (fun h0 => ?_) | refine AWPD.condOP rfl (fun h0 => ?_) (fun h0 => ?_) | refine AWPD.condONN rfl (fun h0 => ?_) (fun h0 => ?_) | refine AWPD.condOPN rfl (fun h0 => ?_) (fun h0 => ?_) | refine AWPD.condA rfl (fun h0 => ?_) (fun h0 => ?_) | refine AWPD.condO rfl (fun h0 => ?_) (fun h0 => ?_) | refine AWPD.cond rfl (fun h0 => ?_) (fun h0 => ?_)
  · try dsimp only [Ty.T] at h0
    try simp only [castL_self] at h0
    try simp only [Int.toNat_natCast] at h0
    try simp only [Int.toNat_zero] at h0
    exact absurd h0 (by decide)
  · try dsimp only [Ty.T] at h0
    try simp only [castL_self] at h0
    try simp only [Int.toNat_natCast] at h0
    try simp only [Int.toNat_zero] at h0
    refine AWPD.skip ?_
    refine hK3 _ _ ?_
    clear hK3
    refine AWPD.seq fun K5 hK5 => ?_
    -- region 4
    refine AWPD.keep [0] rfl ?_
    refine AWPD.region tabOK rfl ?_
    refine hK5 _ _ ?_
    clear hK5
    refine AWPD.seq fun K6 hK6 => ?_
    refine AWPD.seq fun K7 hK7 => ?_
    -- region 5
    refine AWPD.keep [0, 4] rfl ?_
    refine AWPD.region tabOK rfl ?_
    refine hK7 _ _ ?_
    clear hK7
    refine AWPD.block ?_
    -- LOOP 0 live [0, 4, 5] changed [4, 5]
    refine AWPD.nilRow 4 24 .two rfl (by decide) ?_
    refine AWPD.loopK (σ := Nat) [0] (fun i base => (4, .ob 0) :: (5, .i (i : Int)) :: base) (fun i => [.row 24 .two (turnL l i)]) (fun n i => n + i = l.length) (l.length) 0 [0] rfl rfl (by omega) (by decide) ⟨⟨rfl, rfl, rfl⟩, trivial⟩ (by repeat' first | exact True.intro | exact rfl | exact ⟨rfl, rfl⟩ | refine And.intro ?_ ?_) fun n0 i hI0 => ?_
    have hn0 := hI0
    have htl := turnL_len l i
    refine AWPD.seq fun K8 hK8 => ?_
    refine AWPD.seq fun K9 hK9 => ?_
    -- region 6
    refine AWPD.keep [0, 4, 5] rfl ?_
    refine AWPD.region tabOK rfl ?_
    refine hK9 _ _ ?_
    clear hK9
    first | refine AWPD.condP rfl (fun h1 => ?_) (fun h1 => ?_) | refine AWPD.condN rfl (fun h1 => ?_) (fun h1 => ?_) | refine AWPD.condAP rfl (fun h1 => ?_) (fun h1 => ?_) | refine AWPD.condOP rfl (fun h1 => ?_) (fun h1 => ?_) | refine AWPD.condONN rfl (fun h1 => ?_) (fun h1 => ?_) | refine AWPD.condOPN rfl (fun h1 => ?_) (fun h1 => ?_) | refine AWPD.condA rfl (fun h1 => ?_) (fun h1 => ?_) | refine AWPD.condO rfl (fun h1 => ?_) (fun h1 => ?_) | refine AWPD.cond rfl (fun h1 => ?_) (fun h1 => ?_)
    · try dsimp only [Ty.T] at h1
      try simp only [castL_self] at h1
      try simp only [Int.toNat_natCast] at h1
      try simp only [Int.toNat_zero] at h1
      have hil : i < l.length := by omega
      refine AWPD.skip ?_
      refine hK8 _ _ ?_
      clear hK8
      refine AWPD.seq fun K10 hK10 => ?_
      refine AWPD.block ?_
      -- region 8
      refine AWPD.keep [0, 4, 5] rfl ?_
      refine AWPD.draw tabOK [13] rfl (by kernel_rfl) ?_
      repeat refine And.intro (by first | exact fun h => h | exact fun _ => rfl | (intro h; rw [h]; rfl) | omega | (intros; (try dsimp only [Ty.T, Ty.size]); (try simp only [castL_self, Int.toNat_natCast, Int.toNat_zero, Int.toNat_one, true_and, List.length_append, List.length_set, List.length_drop, List.length_take, List.length_replicate, List.length_cons, List.length_nil, Nat.zero_add, Nat.mul_one]); omega) | decide | (intros; simp_all; done) | (intros; simp_all; omega)) ?_
      refine hK10 _ _ ?_
      clear hK10
      -- region 7
      refine AWPD.keep [0, 4, 5] rfl ?_
      refine AWPD.region tabOK rfl ?_
      repeat refine And.intro (by first | exact fun h => h | exact fun _ => rfl | (intro h; rw [h]; rfl) | omega | (intros; (try dsimp only [Ty.T, Ty.size]); (try simp only [castL_self, Int.toNat_natCast, Int.toNat_zero, Int.toNat_one, true_and, List.length_append, List.length_set, List.length_drop, List.length_take, List.length_replicate, List.length_cons, List.length_nil, Nat.zero_add, Nat.mul_one]); omega) | decide | (intros; simp_all; done) | (intros; simp_all; omega)) ?_
      refine ⟨n0 - 1, i + 1, [1], by omega, by omega, ⟨by decide, rfl⟩, ⟨⟨rfl, rfl, (by rw [← turnL_app]; rfl)⟩, trivial⟩, ?_⟩
      repeat' first | exact True.intro | exact rfl | exact ⟨rfl, rfl⟩ | refine And.intro ?_ ?_
    · try dsimp only [Ty.T] at h1
      try simp only [castL_self] at h1
      try simp only [Int.toNat_natCast] at h1
      try simp only [Int.toNat_zero] at h1
      have hil : i = l.length := by omega
      have hta : turnL l i = l.map swapQ := by rw [hil, turnL_all]
      refine AWPD.exit ?_
      refine hK6 _ _ ?_
      clear hK6
      refine AWPD.seq fun K11 hK11 => ?_
      -- region 9
      refine AWPD.keep [0, 4] rfl ?_
      refine AWPD.region tabOK rfl ?_
      refine Exists.intro _ (Exists.intro _ (And.intro (StepD.call (blind_fn _) rfl rfl rfl) (And.intro rfl (And.intro trivial ?_))))
      refine hK11 _ _ ?_
      clear hK11
      refine AWPD.seq fun K12 hK12 => ?_
      -- region 10
      refine AWPD.freeze 4 rfl rfl rfl ?_
      rw [hta]
      refine AWPD.keep [4, 6, 8] rfl ?_
      refine AWPD.region tabOK rfl ?_
      refine Exists.intro _ (Exists.intro _ (And.intro (StepD.call (blind_fn (l.map swapQ)) rfl rfl rfl) (And.intro rfl (And.intro trivial ?_))))
      refine hK12 _ _ ?_
      clear hK12
      refine AWPD.seq fun K13 hK13 => ?_
      -- region 11
      refine AWPD.keep [6, 8, 9, 11] rfl ?_
      refine AWPD.draw tabOK [] rfl (by kernel_rfl) ?_
      repeat refine And.intro (by first | exact fun h => h | exact fun _ => rfl | (intro h; rw [h]; rfl) | omega | (intros; (try dsimp only [Ty.T, Ty.size]); (try simp only [castL_self, Int.toNat_natCast, Int.toNat_zero, Int.toNat_one, true_and, List.length_append, List.length_set, List.length_drop, List.length_take, List.length_replicate, List.length_cons, List.length_nil, Nat.zero_add, Nat.mul_one]); omega) | decide | (intros; simp_all; done) | (intros; simp_all; omega)) ?_
      refine hK13 _ _ ?_
      clear hK13
      refine AWPD.ret (And.intro (.inl rfl) ?_)
      -- result 0
      refine RetD.one ?_
      refine fitB rfl ?_
      have h9 := wld_turn (l := l)
      rw [blind_turn]
      simp [h9]
theorem deduceBlind_fn (l : List (Int × Int)) : LiftsD Try.prog 4 [.sl .two l] (.b true) := by
  refine LiftsD.of_body 95 [.tmp 2] Try.func4 rfl Try.ntmps4 (by kernel_rfl) rfl rfl fun w0 X0 => ?_
  refine AWPD.seq fun K1 hK1 => ?_
  -- region 0
  refine AWPD.keep [0] rfl ?_
  refine AWPD.region tabOK rfl ?_
  refine hK1 _ _ ?_
  clear hK1
  refine AWPD.seq fun K2 hK2 => ?_
  -- region 1
  refine AWPD.keep [0] rfl ?_
  refine AWPD.region tabOK rfl ?_
  refine Exists.intro _ (Exists.intro _ (And.intro (StepD.call (deduceFact_fn) rfl rfl rfl) (And.intro rfl (And.intro trivial ?_))))
  refine hK2 _ _ ?_
  clear hK2
  refine AWPD.seq fun K3 hK3 => ?_
  refine AWPD.seq fun K4 hK4 => ?_
  -- region 2
  refine AWPD.keep [0, 3] rfl ?_
  refine AWPD.region tabOK rfl ?_
  refine hK4 _ _ ?_
  clear hK4
  first | refine AWPD.condP rfl (fun h0 => ?_) (fun h0 => ?_) | refine AWPD.condN rfl (fun h0 => ?_) (fun h0 => ?_) | refine AWPD.condAP rfl (fun h0 => ?_) (fun h0 => ?_) | refine AWPD.condOP rfl (fun h0 => ?_) (fun h0 => ?_) | refine AWPD.condONN rfl (fun h0 => ?_) (fun h0 => ?_) | refine AWPD.condOPN rfl (fun h0 => ?_) (fun h0 => ?_) | refine AWPD.condA rfl (fun h0 => ?_) (fun h0 => ?_) | refine AWPD.condO rfl (fun h0 => ?_) (fun h0 => ?_) | refine AWPD.cond rfl (fun h0 => ?_) (fun h0 => ?_)
  · try dsimp only [Ty.T] at h0
    try simp only [castL_self] at h0
    try simp only [Int.toNat_natCast] at h0
    try simp only [Int.toNat_zero] at h0
    exact absurd h0 (by decide)
  · try dsimp only [Ty.T] at h0
    try simp only [castL_self] at h0
    try simp only [Int.toNat_natCast] at h0
    try simp only [Int.toNat_zero] at h0
    refine AWPD.skip ?_
    refine hK3 _ _ ?_
    clear hK3
    refine AWPD.seq fun K5 hK5 => ?_
    -- region 4
    refine AWPD.keep [0] rfl ?_
    refine AWPD.region tabOK rfl ?_
    refine Exists.intro _ (Exists.intro _ (And.intro (StepD.call (blind_fn _) rfl rfl rfl) (And.intro rfl (And.intro trivial ?_))))
    refine hK5 _ _ ?_
    clear hK5
    refine AWPD.seq fun K6 hK6 => ?_
    refine AWPD.seq fun K7 hK7 => ?_
    -- region 5
    refine AWPD.keep [0, 4, 6] rfl ?_
    refine AWPD.region tabOK rfl ?_
    refine hK7 _ _ ?_
    clear hK7
    first | refine AWPD.condP rfl (fun h1 => ?_) (fun h1 => ?_) | refine AWPD.condN rfl (fun h1 => ?_) (fun h1 => ?_) | refine AWPD.condAP rfl (fun h1 => ?_) (fun h1 => ?_) | refine AWPD.condOP rfl (fun h1 => ?_) (fun h1 => ?_) | refine AWPD.condONN rfl (fun h1 => ?_) (fun h1 => ?_) | refine AWPD.condOPN rfl (fun h1 => ?_) (fun h1 => ?_) | refine AWPD.condA rfl (fun h1 => ?_) (fun h1 => ?_) | refine AWPD.condO rfl (fun h1 => ?_) (fun h1 => ?_) | refine AWPD.cond rfl (fun h1 => ?_) (fun h1 => ?_)
    · try dsimp only [Ty.T] at h1
      try simp only [castL_self] at h1
      try simp only [Int.toNat_natCast] at h1
      try simp only [Int.toNat_zero] at h1
      have h1 : ¬wldE l = 0 := h1
      have hb0 : blindB l = false := by unfold blindB; rw [decide_eq_false h1]; rfl
      refine AWPD.seq fun K8 hK8 => ?_
      -- region 6
      refine AWPD.keep [4] rfl ?_
      refine AWPD.region tabOK rfl ?_
      refine hK8 _ _ ?_
      clear hK8
      refine AWPD.ret (And.intro (.inl rfl) ?_)
      -- result 0
      refine RetD.one ?_
      refine fitB rfl ?_
      rw [hb0]; rfl
    · try dsimp only [Ty.T] at h1
      try simp only [castL_self] at h1
      try simp only [Int.toNat_natCast] at h1
      try simp only [Int.toNat_zero] at h1
      have he : wldE l = 0 := by omega
      have gl := (wld_ok he).1
      refine AWPD.skip ?_
      refine hK6 _ _ ?_
      clear hK6
      refine AWPD.seq fun K9 hK9 => ?_
      -- region 7
      refine AWPD.keep [0, 4] rfl ?_
      refine AWPD.region tabOK rfl ?_
      refine hK9 _ _ ?_
      clear hK9
      refine AWPD.seq fun K10 hK10 => ?_
      -- region 8
      refine AWPD.keep [0, 4, 7] rfl ?_
      refine AWPD.region tabOK rfl ?_
      refine hK10 _ _ ?_
      clear hK10
      refine AWPD.seq fun K11 hK11 => ?_
      refine AWPD.seq fun K12 hK12 => ?_
      -- region 9
      refine AWPD.keep [0, 4, 7, 8] rfl ?_
      refine AWPD.region tabOK rfl ?_
      refine hK12 _ _ ?_
      clear hK12
      refine AWPD.block ?_
      -- LOOP 0 live [0, 4, 7, 8, 9] changed [7, 8, 9]
      refine AWPD.loopK (σ := Nat) [0, 4] (fun i base => (7, .b (allI l i)) :: (8, .i (mostV l i)) :: (9, .i (i : Int)) :: base) (fun _ => []) (fun n i => n + i = l.length) (l.length) 0 [] rfl rfl (by omega) (by decide) trivial (by repeat' first | exact True.intro | exact rfl | exact ⟨rfl, rfl⟩ | refine And.intro ?_ ?_) fun n0 i hI0 => ?_
      have hn0 := hI0
      have hmo := mostV_in l i
      refine AWPD.seq fun K13 hK13 => ?_
      refine AWPD.seq fun K14 hK14 => ?_
      -- region 10
      refine AWPD.keep [0, 4, 7, 8, 9] rfl ?_
      refine AWPD.region tabOK rfl ?_
      refine hK14 _ _ ?_
      clear hK14
      first | refine AWPD.condP rfl (fun h2 => ?_) (fun h2 => ?_) | refine AWPD.condN rfl (fun h2 => ?_) (fun h2 => ?_) | refine AWPD.condAP rfl (fun h2 => ?_) (fun h2 => ?_) | refine AWPD.condOP rfl (fun h2 => ?_) (fun h2 => ?_) | refine AWPD.condONN rfl (fun h2 => ?_) (fun h2 => ?_) | refine AWPD.condOPN rfl (fun h2 => ?_) (fun h2 => ?_) | refine AWPD.condA rfl (fun h2 => ?_) (fun h2 => ?_) | refine AWPD.condO rfl (fun h2 => ?_) (fun h2 => ?_) | refine AWPD.cond rfl (fun h2 => ?_) (fun h2 => ?_)
      · try dsimp only [Ty.T] at h2
        try simp only [castL_self] at h2
        try simp only [Int.toNat_natCast] at h2
        try simp only [Int.toNat_zero] at h2
        have hil : i < l.length := by omega
        have hls := left_some he hil
        have hll := leftV_len (l := l) (s := (l.getD i (0, 0)).2)
        refine AWPD.skip ?_
        refine hK13 _ _ ?_
        clear hK13
        refine AWPD.seq fun K15 hK15 => ?_
        refine AWPD.block ?_
        refine AWPD.seq fun K16 hK16 => ?_
        -- region 12
        refine AWPD.keep [0, 4, 7, 8, 9] rfl ?_
        refine AWPD.region tabOK rfl ?_
        repeat refine And.intro (by first | exact fun h => h | exact fun _ => rfl | (intro h; rw [h]; rfl) | omega | (intros; (try dsimp only [Ty.T, Ty.size]); (try simp only [castL_self, Int.toNat_natCast, Int.toNat_zero, Int.toNat_one, true_and, List.length_append, List.length_set, List.length_drop, List.length_take, List.length_replicate, List.length_cons, List.length_nil, Nat.zero_add, Nat.mul_one]); omega) | decide | (intros; simp_all; done) | (intros; simp_all; omega)) ?_
        refine Exists.intro _ (Exists.intro _ (And.intro (StepD.call (left_fn l (l.getD i (0, 0)).2) rfl rfl rfl) (And.intro rfl (And.intro trivial ?_))))
        refine hK16 _ _ ?_
        clear hK16
        refine AWPD.seq fun K17 hK17 => ?_
        refine AWPD.seq fun K18 hK18 => ?_
        -- region 13
        refine AWPD.keep [0, 4, 7, 8, 9, 10, 11] rfl ?_
        refine AWPD.region tabOK rfl ?_
        repeat refine And.intro (by first | exact fun h => h | exact fun _ => rfl | (intro h; rw [h]; rfl) | omega | (intros; (try dsimp only [Ty.T, Ty.size]); (try simp only [castL_self, Int.toNat_natCast, Int.toNat_zero, Int.toNat_one, true_and, List.length_append, List.length_set, List.length_drop, List.length_take, List.length_replicate, List.length_cons, List.length_nil, Nat.zero_add, Nat.mul_one]); omega) | decide | (intros; simp_all; done) | (intros; simp_all; omega)) ?_
        refine hK18 _ _ ?_
        clear hK18
        first | refine AWPD.cond rfl (fun h3 => ?_) (fun h3 => ?_)
        · try dsimp only [Ty.T] at h3
          try simp only [castL_self] at h3
          try simp only [Int.toNat_natCast] at h3
          try simp only [Int.toNat_zero] at h3
          exfalso
          simp only [Bool.cond_true_left, Bool.or_eq_true, decide_eq_true_eq] at h3
          omega
        · try dsimp only [Ty.T] at h3
          try simp only [castL_self] at h3
          try simp only [Int.toNat_natCast] at h3
          try simp only [Int.toNat_zero] at h3
          refine AWPD.skip ?_
          refine hK17 _ _ ?_
          clear hK17
          refine AWPD.seq fun K19 hK19 => ?_
          refine AWPD.seq fun K20 hK20 => ?_
          -- region 15
          refine AWPD.keep [0, 4, 7, 8, 9, 10] rfl ?_
          refine AWPD.region tabOK rfl ?_
          refine hK20 _ _ ?_
          clear hK20
          first | refine AWPD.condP rfl (fun h4 => ?_) (fun h4 => ?_) | refine AWPD.condN rfl (fun h4 => ?_) (fun h4 => ?_) | refine AWPD.condAP rfl (fun h4 => ?_) (fun h4 => ?_) | refine AWPD.condOP rfl (fun h4 => ?_) (fun h4 => ?_) | refine AWPD.condONN rfl (fun h4 => ?_) (fun h4 => ?_) | refine AWPD.condOPN rfl (fun h4 => ?_) (fun h4 => ?_) | refine AWPD.condA rfl (fun h4 => ?_) (fun h4 => ?_) | refine AWPD.condO rfl (fun h4 => ?_) (fun h4 => ?_) | refine AWPD.cond rfl (fun h4 => ?_) (fun h4 => ?_)
          · try dsimp only [Ty.T] at h4
            try simp only [castL_self] at h4
            try simp only [Int.toNat_natCast] at h4
            try simp only [Int.toNat_zero] at h4
            -- region 16
            refine AWPD.keep [0, 4, 7, 9, 10] rfl ?_
            refine AWPD.region tabOK rfl ?_
            refine hK19 _ _ ?_
            clear hK19
            refine AWPD.seq fun K21 hK21 => ?_
            -- region 17
            refine AWPD.keep [0, 4, 7, 8, 9, 10] rfl ?_
            refine AWPD.region tabOK rfl ?_
            refine hK21 _ _ ?_
            clear hK21
            refine AWPD.block ?_
            -- LOOP 1 live [0, 4, 7, 8, 9, 10, 12] changed [7, 12]
            refine AWPD.loopK (σ := Nat) [0, 4, 8, 9, 10] (fun j base => (7, .b (allJ l (leftV l (l.getD i (0, 0)).2) (allI l i) j)) :: (12, .i (j : Int)) :: base) (fun _ => []) (fun n j => n + j = l.length) (l.length) 0 [] rfl rfl (by omega) (by decide) trivial (by repeat' first | exact True.intro | exact rfl | exact ⟨rfl, rfl⟩ | refine And.intro ?_ ?_) fun n1 j hI1 => ?_
            have hn1 := hI1
            refine AWPD.seq fun K22 hK22 => ?_
            refine AWPD.seq fun K23 hK23 => ?_
            -- region 18
            refine AWPD.keep [0, 4, 7, 8, 9, 10, 12] rfl ?_
            refine AWPD.region tabOK rfl ?_
            refine hK23 _ _ ?_
            clear hK23
            first | refine AWPD.condP rfl (fun h5 => ?_) (fun h5 => ?_) | refine AWPD.condN rfl (fun h5 => ?_) (fun h5 => ?_) | refine AWPD.condAP rfl (fun h5 => ?_) (fun h5 => ?_) | refine AWPD.condOP rfl (fun h5 => ?_) (fun h5 => ?_) | refine AWPD.condONN rfl (fun h5 => ?_) (fun h5 => ?_) | refine AWPD.condOPN rfl (fun h5 => ?_) (fun h5 => ?_) | refine AWPD.condA rfl (fun h5 => ?_) (fun h5 => ?_) | refine AWPD.condO rfl (fun h5 => ?_) (fun h5 => ?_) | refine AWPD.cond rfl (fun h5 => ?_) (fun h5 => ?_)
            · try dsimp only [Ty.T] at h5
              try simp only [castL_self] at h5
              try simp only [Int.toNat_natCast] at h5
              try simp only [Int.toNat_zero] at h5
              have hjl : j < l.length := by omega
              refine AWPD.skip ?_
              refine hK22 _ _ ?_
              clear hK22
              refine AWPD.seq fun K24 hK24 => ?_
              refine AWPD.block ?_
              refine AWPD.seq fun K25 hK25 => ?_
              -- region 20
              refine AWPD.keep [0, 4, 7, 8, 9, 10, 12] rfl ?_
              refine AWPD.region tabOK rfl ?_
              refine hK25 _ _ ?_
              clear hK25
              refine AWPD.seq fun K26 hK26 => ?_
              refine AWPD.seq fun K27 hK27 => ?_
              -- region 21
              refine AWPD.keep [0, 4, 7, 8, 9, 10, 12, 13] rfl ?_
              refine AWPD.region tabOK rfl ?_
              refine hK27 _ _ ?_
              clear hK27
              refine AWPD.block ?_
              -- LOOP 2 live [0, 4, 7, 8, 9, 10, 12, 13, 14] changed [13, 14]
              refine AWPD.loopK (σ := Nat) [0, 4, 7, 8, 9, 10, 12] (fun k base => (13, .b (hereV (leftV l (l.getD i (0, 0)).2) (l.getD j (0, 0)).1 k)) :: (14, .i (k : Int)) :: base) (fun _ => []) (fun n k => n + k = (leftV l (l.getD i (0, 0)).2).length) ((leftV l (l.getD i (0, 0)).2).length) 0 [] rfl rfl (by omega) (by decide) trivial (by repeat' first | exact True.intro | exact rfl | exact ⟨rfl, rfl⟩ | refine And.intro ?_ ?_) fun n2 k hI2 => ?_
              have hn2 := hI2
              refine AWPD.seq fun K28 hK28 => ?_
              refine AWPD.seq fun K29 hK29 => ?_
              -- region 22
              refine AWPD.keep [0, 4, 7, 8, 9, 10, 12, 13, 14] rfl ?_
              refine AWPD.region tabOK rfl ?_
              refine hK29 _ _ ?_
              clear hK29
              first | refine AWPD.condP rfl (fun h6 => ?_) (fun h6 => ?_) | refine AWPD.condN rfl (fun h6 => ?_) (fun h6 => ?_) | refine AWPD.condAP rfl (fun h6 => ?_) (fun h6 => ?_) | refine AWPD.condOP rfl (fun h6 => ?_) (fun h6 => ?_) | refine AWPD.condONN rfl (fun h6 => ?_) (fun h6 => ?_) | refine AWPD.condOPN rfl (fun h6 => ?_) (fun h6 => ?_) | refine AWPD.condA rfl (fun h6 => ?_) (fun h6 => ?_) | refine AWPD.condO rfl (fun h6 => ?_) (fun h6 => ?_) | refine AWPD.cond rfl (fun h6 => ?_) (fun h6 => ?_)
              · try dsimp only [Ty.T] at h6
                try simp only [castL_self] at h6
                try simp only [Int.toNat_natCast] at h6
                try simp only [Int.toNat_zero] at h6
                have hkl : k < (leftV l (l.getD i (0, 0)).2).length := by omega
                refine AWPD.skip ?_
                refine hK28 _ _ ?_
                clear hK28
                refine AWPD.seq fun K30 hK30 => ?_
                refine AWPD.block ?_
                -- region 24
                refine AWPD.keep [0, 4, 7, 8, 9, 10, 12, 13, 14] rfl ?_
                refine AWPD.draw tabOK [] rfl (by kernel_rfl) ?_
                repeat refine And.intro (by first | exact fun h => h | exact fun _ => rfl | (intro h; rw [h]; rfl) | omega | (intros; (try dsimp only [Ty.T, Ty.size]); (try simp only [castL_self, Int.toNat_natCast, Int.toNat_zero, Int.toNat_one, true_and, List.length_append, List.length_set, List.length_drop, List.length_take, List.length_replicate, List.length_cons, List.length_nil, Nat.zero_add, Nat.mul_one]); omega) | decide | (intros; simp_all; done) | (intros; simp_all; omega)) ?_
                refine hK30 _ _ ?_
                clear hK30
                -- region 23
                refine AWPD.keep [0, 4, 7, 8, 9, 10, 12, 13, 14] rfl ?_
                refine AWPD.region tabOK rfl ?_
                repeat refine And.intro (by first | exact fun h => h | exact fun _ => rfl | (intro h; rw [h]; rfl) | omega | (intros; (try dsimp only [Ty.T, Ty.size]); (try simp only [castL_self, Int.toNat_natCast, Int.toNat_zero, Int.toNat_one, true_and, List.length_append, List.length_set, List.length_drop, List.length_take, List.length_replicate, List.length_cons, List.length_nil, Nat.zero_add, Nat.mul_one]); omega) | decide | (intros; simp_all; done) | (intros; simp_all; omega)) ?_
                refine ⟨n2 - 1, k + 1, [], by omega, by omega, ⟨by decide, rfl⟩, trivial, ?_⟩
                repeat' first | (show (bif hereV (leftV l (l.getD i (0, 0)).2) (l.getD j (0, 0)).1 k then true else decide ((leftV l (l.getD i (0, 0)).2).getD k 0 = (l.getD j (0, 0)).1)) = hereV (leftV l (l.getD i (0, 0)).2) (l.getD j (0, 0)).1 (k + 1); rw [hereV]; cases hereV (leftV l (l.getD i (0, 0)).2) (l.getD j (0, 0)).1 k <;> rfl) | exact True.intro | exact rfl | exact ⟨rfl, rfl⟩ | refine And.intro ?_ ?_
              · try dsimp only [Ty.T] at h6
                try simp only [castL_self] at h6
                try simp only [Int.toNat_natCast] at h6
                try simp only [Int.toNat_zero] at h6
                have hkl : k = (leftV l (l.getD i (0, 0)).2).length := by omega
                refine AWPD.exit ?_
                refine hK26 _ _ ?_
                clear hK26
                -- region 25
                refine AWPD.keep [0, 4, 7, 8, 9, 10, 12, 13] rfl ?_
                refine AWPD.region tabOK rfl ?_
                repeat refine And.intro (by first | exact fun h => h | exact fun _ => rfl | (intro h; rw [h]; rfl) | omega | (intros; (try dsimp only [Ty.T, Ty.size]); (try simp only [castL_self, Int.toNat_natCast, Int.toNat_zero, Int.toNat_one, true_and, List.length_append, List.length_set, List.length_drop, List.length_take, List.length_replicate, List.length_cons, List.length_nil, Nat.zero_add, Nat.mul_one]); omega) | decide | (intros; simp_all; done) | (intros; simp_all; omega)) ?_
                refine hK24 _ _ ?_
                clear hK24
                -- region 19
                refine AWPD.keep [0, 4, 7, 8, 9, 10, 12] rfl ?_
                refine AWPD.region tabOK rfl ?_
                repeat refine And.intro (by first | exact fun h => h | exact fun _ => rfl | (intro h; rw [h]; rfl) | omega | (intros; (try dsimp only [Ty.T, Ty.size]); (try simp only [castL_self, Int.toNat_natCast, Int.toNat_zero, Int.toNat_one, true_and, List.length_append, List.length_set, List.length_drop, List.length_take, List.length_replicate, List.length_cons, List.length_nil, Nat.zero_add, Nat.mul_one]); omega) | decide | (intros; simp_all; done) | (intros; simp_all; omega)) ?_
                refine ⟨n1 - 1, j + 1, [], by omega, by omega, ⟨by decide, rfl⟩, trivial, ?_⟩
                repeat' first | (show (bif allJ l (leftV l (l.getD i (0, 0)).2) (allI l i) j then hereV (leftV l (l.getD i (0, 0)).2) (l.getD j (0, 0)).1 k else false) = allJ l (leftV l (l.getD i (0, 0)).2) (allI l i) (j + 1); rw [allJ, hkl]; cases allJ l (leftV l (l.getD i (0, 0)).2) (allI l i) j <;> rfl) | exact True.intro | exact rfl | exact ⟨rfl, rfl⟩ | refine And.intro ?_ ?_
            · try dsimp only [Ty.T] at h5
              try simp only [castL_self] at h5
              try simp only [Int.toNat_natCast] at h5
              try simp only [Int.toNat_zero] at h5
              have hjl : j = l.length := by omega
              refine AWPD.exit ?_
              refine hK15 _ _ ?_
              clear hK15
              -- region 11
              refine AWPD.keep [0, 4, 7, 8, 9] rfl ?_
              refine AWPD.region tabOK rfl ?_
              repeat refine And.intro (by first | exact fun h => h | exact fun _ => rfl | (intro h; rw [h]; rfl) | omega | (intros; (try dsimp only [Ty.T, Ty.size]); (try simp only [castL_self, Int.toNat_natCast, Int.toNat_zero, Int.toNat_one, true_and, List.length_append, List.length_set, List.length_drop, List.length_take, List.length_replicate, List.length_cons, List.length_nil, Nat.zero_add, Nat.mul_one]); omega) | decide | (intros; simp_all; done) | (intros; simp_all; omega)) ?_
              refine ⟨n0 - 1, i + 1, [], by omega, by omega, ⟨by decide, rfl⟩, trivial, ?_⟩
              repeat' first | (rw [hjl]; rfl) | (show ((leftV l (l.getD i (0, 0)).2).length : Int) = mostV l (i + 1); rw [mostV, if_pos h4]) | (show mostV l i = mostV l (i + 1); rw [mostV, if_neg h4]) | exact True.intro | exact rfl | exact ⟨rfl, rfl⟩ | refine And.intro ?_ ?_
          · try dsimp only [Ty.T] at h4
            try simp only [castL_self] at h4
            try simp only [Int.toNat_natCast] at h4
            try simp only [Int.toNat_zero] at h4
            refine AWPD.skip ?_
            refine hK19 _ _ ?_
            clear hK19
            refine AWPD.seq fun K31 hK31 => ?_
            -- region 17
            refine AWPD.keep [0, 4, 7, 8, 9, 10] rfl ?_
            refine AWPD.region tabOK rfl ?_
            refine hK31 _ _ ?_
            clear hK31
            refine AWPD.block ?_
            -- LOOP 1 live [0, 4, 7, 8, 9, 10, 12] changed [7, 12]
            refine AWPD.loopK (σ := Nat) [0, 4, 8, 9, 10] (fun j base => (7, .b (allJ l (leftV l (l.getD i (0, 0)).2) (allI l i) j)) :: (12, .i (j : Int)) :: base) (fun _ => []) (fun n j => n + j = l.length) (l.length) 0 [] rfl rfl (by omega) (by decide) trivial (by repeat' first | exact True.intro | exact rfl | exact ⟨rfl, rfl⟩ | refine And.intro ?_ ?_) fun n1 j hI1 => ?_
            have hn1 := hI1
            refine AWPD.seq fun K32 hK32 => ?_
            refine AWPD.seq fun K33 hK33 => ?_
            -- region 18
            refine AWPD.keep [0, 4, 7, 8, 9, 10, 12] rfl ?_
            refine AWPD.region tabOK rfl ?_
            refine hK33 _ _ ?_
            clear hK33
            first | refine AWPD.condP rfl (fun h5 => ?_) (fun h5 => ?_) | refine AWPD.condN rfl (fun h5 => ?_) (fun h5 => ?_) | refine AWPD.condAP rfl (fun h5 => ?_) (fun h5 => ?_) | refine AWPD.condOP rfl (fun h5 => ?_) (fun h5 => ?_) | refine AWPD.condONN rfl (fun h5 => ?_) (fun h5 => ?_) | refine AWPD.condOPN rfl (fun h5 => ?_) (fun h5 => ?_) | refine AWPD.condA rfl (fun h5 => ?_) (fun h5 => ?_) | refine AWPD.condO rfl (fun h5 => ?_) (fun h5 => ?_) | refine AWPD.cond rfl (fun h5 => ?_) (fun h5 => ?_)
            · try dsimp only [Ty.T] at h5
              try simp only [castL_self] at h5
              try simp only [Int.toNat_natCast] at h5
              try simp only [Int.toNat_zero] at h5
              have hjl : j < l.length := by omega
              refine AWPD.skip ?_
              refine hK32 _ _ ?_
              clear hK32
              refine AWPD.seq fun K34 hK34 => ?_
              refine AWPD.block ?_
              refine AWPD.seq fun K35 hK35 => ?_
              -- region 20
              refine AWPD.keep [0, 4, 7, 8, 9, 10, 12] rfl ?_
              refine AWPD.region tabOK rfl ?_
              refine hK35 _ _ ?_
              clear hK35
              refine AWPD.seq fun K36 hK36 => ?_
              refine AWPD.seq fun K37 hK37 => ?_
              -- region 21
              refine AWPD.keep [0, 4, 7, 8, 9, 10, 12, 13] rfl ?_
              refine AWPD.region tabOK rfl ?_
              refine hK37 _ _ ?_
              clear hK37
              refine AWPD.block ?_
              -- LOOP 2 live [0, 4, 7, 8, 9, 10, 12, 13, 14] changed [13, 14]
              refine AWPD.loopK (σ := Nat) [0, 4, 7, 8, 9, 10, 12] (fun k base => (13, .b (hereV (leftV l (l.getD i (0, 0)).2) (l.getD j (0, 0)).1 k)) :: (14, .i (k : Int)) :: base) (fun _ => []) (fun n k => n + k = (leftV l (l.getD i (0, 0)).2).length) ((leftV l (l.getD i (0, 0)).2).length) 0 [] rfl rfl (by omega) (by decide) trivial (by repeat' first | exact True.intro | exact rfl | exact ⟨rfl, rfl⟩ | refine And.intro ?_ ?_) fun n2 k hI2 => ?_
              have hn2 := hI2
              refine AWPD.seq fun K38 hK38 => ?_
              refine AWPD.seq fun K39 hK39 => ?_
              -- region 22
              refine AWPD.keep [0, 4, 7, 8, 9, 10, 12, 13, 14] rfl ?_
              refine AWPD.region tabOK rfl ?_
              refine hK39 _ _ ?_
              clear hK39
              first | refine AWPD.condP rfl (fun h6 => ?_) (fun h6 => ?_) | refine AWPD.condN rfl (fun h6 => ?_) (fun h6 => ?_) | refine AWPD.condAP rfl (fun h6 => ?_) (fun h6 => ?_) | refine AWPD.condOP rfl (fun h6 => ?_) (fun h6 => ?_) | refine AWPD.condONN rfl (fun h6 => ?_) (fun h6 => ?_) | refine AWPD.condOPN rfl (fun h6 => ?_) (fun h6 => ?_) | refine AWPD.condA rfl (fun h6 => ?_) (fun h6 => ?_) | refine AWPD.condO rfl (fun h6 => ?_) (fun h6 => ?_) | refine AWPD.cond rfl (fun h6 => ?_) (fun h6 => ?_)
              · try dsimp only [Ty.T] at h6
                try simp only [castL_self] at h6
                try simp only [Int.toNat_natCast] at h6
                try simp only [Int.toNat_zero] at h6
                have hkl : k < (leftV l (l.getD i (0, 0)).2).length := by omega
                refine AWPD.skip ?_
                refine hK38 _ _ ?_
                clear hK38
                refine AWPD.seq fun K40 hK40 => ?_
                refine AWPD.block ?_
                -- region 24
                refine AWPD.keep [0, 4, 7, 8, 9, 10, 12, 13, 14] rfl ?_
                refine AWPD.draw tabOK [] rfl (by kernel_rfl) ?_
                repeat refine And.intro (by first | exact fun h => h | exact fun _ => rfl | (intro h; rw [h]; rfl) | omega | (intros; (try dsimp only [Ty.T, Ty.size]); (try simp only [castL_self, Int.toNat_natCast, Int.toNat_zero, Int.toNat_one, true_and, List.length_append, List.length_set, List.length_drop, List.length_take, List.length_replicate, List.length_cons, List.length_nil, Nat.zero_add, Nat.mul_one]); omega) | decide | (intros; simp_all; done) | (intros; simp_all; omega)) ?_
                refine hK40 _ _ ?_
                clear hK40
                -- region 23
                refine AWPD.keep [0, 4, 7, 8, 9, 10, 12, 13, 14] rfl ?_
                refine AWPD.region tabOK rfl ?_
                repeat refine And.intro (by first | exact fun h => h | exact fun _ => rfl | (intro h; rw [h]; rfl) | omega | (intros; (try dsimp only [Ty.T, Ty.size]); (try simp only [castL_self, Int.toNat_natCast, Int.toNat_zero, Int.toNat_one, true_and, List.length_append, List.length_set, List.length_drop, List.length_take, List.length_replicate, List.length_cons, List.length_nil, Nat.zero_add, Nat.mul_one]); omega) | decide | (intros; simp_all; done) | (intros; simp_all; omega)) ?_
                refine ⟨n2 - 1, k + 1, [], by omega, by omega, ⟨by decide, rfl⟩, trivial, ?_⟩
                repeat' first | (show (bif hereV (leftV l (l.getD i (0, 0)).2) (l.getD j (0, 0)).1 k then true else decide ((leftV l (l.getD i (0, 0)).2).getD k 0 = (l.getD j (0, 0)).1)) = hereV (leftV l (l.getD i (0, 0)).2) (l.getD j (0, 0)).1 (k + 1); rw [hereV]; cases hereV (leftV l (l.getD i (0, 0)).2) (l.getD j (0, 0)).1 k <;> rfl) | exact True.intro | exact rfl | exact ⟨rfl, rfl⟩ | refine And.intro ?_ ?_
              · try dsimp only [Ty.T] at h6
                try simp only [castL_self] at h6
                try simp only [Int.toNat_natCast] at h6
                try simp only [Int.toNat_zero] at h6
                have hkl : k = (leftV l (l.getD i (0, 0)).2).length := by omega
                refine AWPD.exit ?_
                refine hK36 _ _ ?_
                clear hK36
                -- region 25
                refine AWPD.keep [0, 4, 7, 8, 9, 10, 12, 13] rfl ?_
                refine AWPD.region tabOK rfl ?_
                repeat refine And.intro (by first | exact fun h => h | exact fun _ => rfl | (intro h; rw [h]; rfl) | omega | (intros; (try dsimp only [Ty.T, Ty.size]); (try simp only [castL_self, Int.toNat_natCast, Int.toNat_zero, Int.toNat_one, true_and, List.length_append, List.length_set, List.length_drop, List.length_take, List.length_replicate, List.length_cons, List.length_nil, Nat.zero_add, Nat.mul_one]); omega) | decide | (intros; simp_all; done) | (intros; simp_all; omega)) ?_
                refine hK34 _ _ ?_
                clear hK34
                -- region 19
                refine AWPD.keep [0, 4, 7, 8, 9, 10, 12] rfl ?_
                refine AWPD.region tabOK rfl ?_
                repeat refine And.intro (by first | exact fun h => h | exact fun _ => rfl | (intro h; rw [h]; rfl) | omega | (intros; (try dsimp only [Ty.T, Ty.size]); (try simp only [castL_self, Int.toNat_natCast, Int.toNat_zero, Int.toNat_one, true_and, List.length_append, List.length_set, List.length_drop, List.length_take, List.length_replicate, List.length_cons, List.length_nil, Nat.zero_add, Nat.mul_one]); omega) | decide | (intros; simp_all; done) | (intros; simp_all; omega)) ?_
                refine ⟨n1 - 1, j + 1, [], by omega, by omega, ⟨by decide, rfl⟩, trivial, ?_⟩
                repeat' first | (show (bif allJ l (leftV l (l.getD i (0, 0)).2) (allI l i) j then hereV (leftV l (l.getD i (0, 0)).2) (l.getD j (0, 0)).1 k else false) = allJ l (leftV l (l.getD i (0, 0)).2) (allI l i) (j + 1); rw [allJ, hkl]; cases allJ l (leftV l (l.getD i (0, 0)).2) (allI l i) j <;> rfl) | exact True.intro | exact rfl | exact ⟨rfl, rfl⟩ | refine And.intro ?_ ?_
            · try dsimp only [Ty.T] at h5
              try simp only [castL_self] at h5
              try simp only [Int.toNat_natCast] at h5
              try simp only [Int.toNat_zero] at h5
              have hjl : j = l.length := by omega
              refine AWPD.exit ?_
              refine hK15 _ _ ?_
              clear hK15
              -- region 11
              refine AWPD.keep [0, 4, 7, 8, 9] rfl ?_
              refine AWPD.region tabOK rfl ?_
              repeat refine And.intro (by first | exact fun h => h | exact fun _ => rfl | (intro h; rw [h]; rfl) | omega | (intros; (try dsimp only [Ty.T, Ty.size]); (try simp only [castL_self, Int.toNat_natCast, Int.toNat_zero, Int.toNat_one, true_and, List.length_append, List.length_set, List.length_drop, List.length_take, List.length_replicate, List.length_cons, List.length_nil, Nat.zero_add, Nat.mul_one]); omega) | decide | (intros; simp_all; done) | (intros; simp_all; omega)) ?_
              refine ⟨n0 - 1, i + 1, [], by omega, by omega, ⟨by decide, rfl⟩, trivial, ?_⟩
              repeat' first | (rw [hjl]; rfl) | (show ((leftV l (l.getD i (0, 0)).2).length : Int) = mostV l (i + 1); rw [mostV, if_pos h4]) | (show mostV l i = mostV l (i + 1); rw [mostV, if_neg h4]) | exact True.intro | exact rfl | exact ⟨rfl, rfl⟩ | refine And.intro ?_ ?_
      · try dsimp only [Ty.T] at h2
        try simp only [castL_self] at h2
        try simp only [Int.toNat_natCast] at h2
        try simp only [Int.toNat_zero] at h2
        have hil : i = l.length := by omega
        refine AWPD.exit ?_
        refine hK11 _ _ ?_
        clear hK11
        refine AWPD.seq fun K41 hK41 => ?_
        -- region 26
        refine AWPD.keep [0, 4, 7, 8] rfl ?_
        refine AWPD.region tabOK rfl ?_
        repeat refine And.intro (by first | exact fun h => h | exact fun _ => rfl | (intro h; rw [h]; rfl) | omega | (intros; (try dsimp only [Ty.T, Ty.size]); (try simp only [castL_self, Int.toNat_natCast, Int.toNat_zero, Int.toNat_one, true_and, List.length_append, List.length_set, List.length_drop, List.length_take, List.length_replicate, List.length_cons, List.length_nil, Nat.zero_add, Nat.mul_one]); omega) | decide | (intros; simp_all; done) | (intros; simp_all; omega)) ?_
        refine hK41 _ _ ?_
        clear hK41
        refine AWPD.ret (And.intro (.inl rfl) ?_)
        -- result 1
        refine RetD.one ?_
        refine fitB rfl ?_
        rw [blind_all he, ← hil]
        simp
        omega
theorem deduceMix_fn (l : List (Int × Int)) : LiftsD Try.prog 5 [.sl .two l] (.b true) := by
  refine LiftsD.of_body 87 [.tmp 2] Try.func5 rfl Try.ntmps5 (by kernel_rfl) rfl rfl fun w0 X0 => ?_
  refine AWPD.seq fun K1 hK1 => ?_
  -- region 0
  refine AWPD.keep [0] rfl ?_
  refine AWPD.region tabOK rfl ?_
  refine hK1 _ _ ?_
  clear hK1
  refine AWPD.seq fun K2 hK2 => ?_
  -- region 1
  refine AWPD.keep [0] rfl ?_
  refine AWPD.region tabOK rfl ?_
  refine Exists.intro _ (Exists.intro _ (And.intro (StepD.call (deduceFact_fn) rfl rfl rfl) (And.intro rfl (And.intro trivial ?_))))
  refine hK2 _ _ ?_
  clear hK2
  refine AWPD.seq fun K3 hK3 => ?_
  refine AWPD.seq fun K4 hK4 => ?_
  -- region 2
  refine AWPD.keep [0, 3] rfl ?_
  refine AWPD.region tabOK rfl ?_
  refine hK4 _ _ ?_
  clear hK4
  first | refine AWPD.condP rfl (fun h0 => ?_) (fun h0 => ?_) | refine AWPD.condN rfl (fun h0 => ?_) (fun h0 => ?_) | refine AWPD.condAP rfl (fun h0 => ?_) (fun h0 => ?_) | refine AWPD.condOP rfl (fun h0 => ?_) (fun h0 => ?_) | refine AWPD.condONN rfl (fun h0 => ?_) (fun h0 => ?_) | refine AWPD.condOPN rfl (fun h0 => ?_) (fun h0 => ?_) | refine AWPD.condA rfl (fun h0 => ?_) (fun h0 => ?_) | refine AWPD.condO rfl (fun h0 => ?_) (fun h0 => ?_) | refine AWPD.cond rfl (fun h0 => ?_) (fun h0 => ?_)
  · try dsimp only [Ty.T] at h0
    try simp only [castL_self] at h0
    try simp only [Int.toNat_natCast] at h0
    try simp only [Int.toNat_zero] at h0
    exact absurd h0 (by decide)
  · try dsimp only [Ty.T] at h0
    try simp only [castL_self] at h0
    try simp only [Int.toNat_natCast] at h0
    try simp only [Int.toNat_zero] at h0
    refine AWPD.skip ?_
    refine hK3 _ _ ?_
    clear hK3
    refine AWPD.seq fun K5 hK5 => ?_
    -- region 4
    refine AWPD.keep [0] rfl ?_
    refine AWPD.region tabOK rfl ?_
    refine Exists.intro _ (Exists.intro _ (And.intro (StepD.call (blind_fn _) rfl rfl rfl) (And.intro rfl (And.intro trivial ?_))))
    refine hK5 _ _ ?_
    clear hK5
    refine AWPD.seq fun K6 hK6 => ?_
    -- region 5
    refine AWPD.keep [0, 4, 6] rfl ?_
    refine AWPD.region tabOK rfl ?_
    refine Exists.intro _ (Exists.intro _ (And.intro (StepD.call (mix_fn _) rfl rfl rfl) (And.intro rfl (And.intro trivial ?_))))
    refine hK6 _ _ ?_
    clear hK6
    refine AWPD.seq fun K7 hK7 => ?_
    refine AWPD.seq fun K8 hK8 => ?_
    -- region 6
    refine AWPD.keep [0, 4, 6, 7, 8] rfl ?_
    refine AWPD.region tabOK rfl ?_
    repeat refine And.intro (by first | exact fun h => h | exact fun _ => rfl | (intro h; rw [h]; rfl) | omega | (intros; (try dsimp only [Ty.T, Ty.size]); (try simp only [castL_self, Int.toNat_natCast, Int.toNat_zero, Int.toNat_one, true_and, List.length_append, List.length_set, List.length_drop, List.length_take, List.length_replicate, List.length_cons, List.length_nil, Nat.zero_add, Nat.mul_one]); omega) | decide | (intros; simp_all; done) | (intros; simp_all; omega)) ?_
    refine hK8 _ _ ?_
    clear hK8
    first | refine AWPD.condP rfl (fun h1 => ?_) (fun h1 => ?_) | refine AWPD.condN rfl (fun h1 => ?_) (fun h1 => ?_) | refine AWPD.condAP rfl (fun h1 => ?_) (fun h1 => ?_) | refine AWPD.condOP rfl (fun h1 => ?_) (fun h1 => ?_) | refine AWPD.condONN rfl (fun h1 => ?_) (fun h1 => ?_) | refine AWPD.condOPN rfl (fun h1 => ?_) (fun h1 => ?_) | refine AWPD.condA rfl (fun h1 => ?_) (fun h1 => ?_) | refine AWPD.condO rfl (fun h1 => ?_) (fun h1 => ?_) | refine AWPD.cond rfl (fun h1 => ?_) (fun h1 => ?_)
    · try dsimp only [Ty.T] at h1
      try simp only [castL_self] at h1
      try simp only [Int.toNat_natCast] at h1
      try simp only [Int.toNat_zero] at h1
      have hmx : mixE l ≠ 0 ∧ mixV l = [] := by
        have hz : mixE l ≠ 0 := fun hh => by
          rcases h1 with h | h
          · exact h (mixE_ok hh).1
          · exact h hh
        exact ⟨hz, by unfold mixV; rw [if_neg hz]⟩
      refine AWPD.seq fun K9 hK9 => ?_
      -- region 7
      refine AWPD.keep [7, 8] rfl ?_
      refine AWPD.region tabOK rfl ?_
      repeat refine And.intro (by first | exact fun h => h | exact fun _ => rfl | (intro h; rw [h]; rfl) | omega | (intros; (try dsimp only [Ty.T, Ty.size]); (try simp only [castL_self, Int.toNat_natCast, Int.toNat_zero, Int.toNat_one, true_and, List.length_append, List.length_set, List.length_drop, List.length_take, List.length_replicate, List.length_cons, List.length_nil, Nat.zero_add, Nat.mul_one]); omega) | decide | (intros; simp_all; done) | (intros; simp_all; omega)) ?_
      refine hK9 _ _ ?_
      clear hK9
      refine AWPD.ret (And.intro (.inl rfl) ?_)
      -- result 0
      refine RetD.one ?_
      refine fitB rfl ?_
      rw [hmx.2]
      simp [hmx.1]
    · try dsimp only [Ty.T] at h1
      try simp only [castL_self] at h1
      try simp only [Int.toNat_natCast] at h1
      try simp only [Int.toNat_zero] at h1
      have hz : mixE l = 0 := Decidable.not_not.1 h1.2
      obtain ⟨he, hsum, hmx⟩ := mixE_ok hz
      have hw := mix_wld he hsum
      refine AWPD.skip ?_
      refine hK7 _ _ ?_
      clear hK7
      refine AWPD.seq fun K10 hK10 => ?_
      -- region 8
      rw [hmx]
      refine AWPD.keep [0, 4, 7] rfl ?_
      refine AWPD.region tabOK rfl ?_
      refine hK10 _ _ ?_
      clear hK10
      refine AWPD.seq fun K11 hK11 => ?_
      -- region 9
      refine AWPD.keep [0, 4, 7, 9] rfl ?_
      refine AWPD.region tabOK rfl ?_
      repeat refine And.intro (by first | exact fun h => h | exact fun _ => rfl | (intro h; rw [h]; rfl) | omega | (intros; (try dsimp only [Ty.T, Ty.size]); (try simp only [castL_self, Int.toNat_natCast, Int.toNat_zero, Int.toNat_one, true_and, List.length_append, List.length_set, List.length_drop, List.length_take, List.length_replicate, List.length_cons, List.length_nil, Nat.zero_add, Nat.mul_one]); omega) | decide | (intros; simp_all; done) | (intros; simp_all; omega)) ?_
      refine hK11 _ _ ?_
      clear hK11
      refine AWPD.seq fun K12 hK12 => ?_
      -- region 10
      refine AWPD.keep [0, 4, 7, 9] rfl ?_
      refine AWPD.region tabOK rfl ?_
      repeat refine And.intro (by first | exact fun h => h | exact fun _ => rfl | (intro h; rw [h]; rfl) | omega | (intros; (try dsimp only [Ty.T, Ty.size]); (try simp only [castL_self, Int.toNat_natCast, Int.toNat_zero, Int.toNat_one, true_and, List.length_append, List.length_set, List.length_drop, List.length_take, List.length_replicate, List.length_cons, List.length_nil, Nat.zero_add, Nat.mul_one]); omega) | decide | (intros; simp_all; done) | (intros; simp_all; omega)) ?_
      refine hK12 _ _ ?_
      clear hK12
      refine AWPD.seq fun K13 hK13 => ?_
      -- region 11
      refine AWPD.freeze 9 rfl rfl rfl ?_
      refine AWPD.keep [0, 4, 7, 9] rfl ?_
      refine AWPD.region tabOK rfl ?_
      refine Exists.intro _ (Exists.intro _ (And.intro (StepD.call (blind_fn (l ++ misV l)) rfl rfl rfl) (And.intro rfl (And.intro trivial ?_))))
      refine hK13 _ _ ?_
      clear hK13
      refine AWPD.seq fun K14 hK14 => ?_
      refine AWPD.seq fun K15 hK15 => ?_
      -- region 12
      refine AWPD.keep [0, 4, 7, 10, 12] rfl ?_
      refine AWPD.region tabOK rfl ?_
      refine hK15 _ _ ?_
      clear hK15
      refine AWPD.block ?_
      -- LOOP 0 live [0, 4, 7, 10, 12, 13] changed [13]
      refine AWPD.loopK (σ := Nat) [0, 4, 7, 10, 12] (fun i base => (13, .i (i : Int)) :: base) (fun _ => []) (fun n i => n + i = (misV l).length) ((misV l).length) 0 [] rfl rfl (by omega) (by decide) trivial (by repeat' first | exact True.intro | exact rfl | exact ⟨rfl, rfl⟩ | refine And.intro ?_ ?_) fun n0 i hI0 => ?_
      have hn0 := hI0
      refine AWPD.seq fun K16 hK16 => ?_
      refine AWPD.seq fun K17 hK17 => ?_
      -- region 13
      refine AWPD.keep [0, 4, 7, 10, 12, 13] rfl ?_
      refine AWPD.region tabOK rfl ?_
      refine hK17 _ _ ?_
      clear hK17
      first | refine AWPD.condP rfl (fun h2 => ?_) (fun h2 => ?_) | refine AWPD.condN rfl (fun h2 => ?_) (fun h2 => ?_) | refine AWPD.condAP rfl (fun h2 => ?_) (fun h2 => ?_) | refine AWPD.condOP rfl (fun h2 => ?_) (fun h2 => ?_) | refine AWPD.condONN rfl (fun h2 => ?_) (fun h2 => ?_) | refine AWPD.condOPN rfl (fun h2 => ?_) (fun h2 => ?_) | refine AWPD.condA rfl (fun h2 => ?_) (fun h2 => ?_) | refine AWPD.condO rfl (fun h2 => ?_) (fun h2 => ?_) | refine AWPD.cond rfl (fun h2 => ?_) (fun h2 => ?_)
      · try dsimp only [Ty.T] at h2
        try simp only [castL_self] at h2
        try simp only [Int.toNat_natCast] at h2
        try simp only [Int.toNat_zero] at h2
        have hil : i < (misV l).length := by omega
        refine AWPD.skip ?_
        refine hK16 _ _ ?_
        clear hK16
        refine AWPD.seq fun K18 hK18 => ?_
        refine AWPD.block ?_
        refine AWPD.seq fun K19 hK19 => ?_
        -- region 15
        refine AWPD.keep [0, 4, 7, 10, 12, 13] rfl ?_
        refine AWPD.region tabOK rfl ?_
        refine hK19 _ _ ?_
        clear hK19
        refine AWPD.block ?_
        -- LOOP 1 live [0, 4, 7, 10, 12, 13, 14] changed [14]
        refine AWPD.loopK (σ := Nat) [0, 4, 7, 10, 12, 13] (fun j base => (14, .i (j : Int)) :: base) (fun _ => []) (fun n j => n + j = l.length) (l.length) 0 [] rfl rfl (by omega) (by decide) trivial (by repeat' first | exact True.intro | exact rfl | exact ⟨rfl, rfl⟩ | refine And.intro ?_ ?_) fun n1 j hI1 => ?_
        have hn1 := hI1
        refine AWPD.seq fun K20 hK20 => ?_
        refine AWPD.seq fun K21 hK21 => ?_
        -- region 16
        refine AWPD.keep [0, 4, 7, 10, 12, 13, 14] rfl ?_
        refine AWPD.region tabOK rfl ?_
        refine hK21 _ _ ?_
        clear hK21
        first | refine AWPD.condP rfl (fun h3 => ?_) (fun h3 => ?_) | refine AWPD.condN rfl (fun h3 => ?_) (fun h3 => ?_) | refine AWPD.condAP rfl (fun h3 => ?_) (fun h3 => ?_) | refine AWPD.condOP rfl (fun h3 => ?_) (fun h3 => ?_) | refine AWPD.condONN rfl (fun h3 => ?_) (fun h3 => ?_) | refine AWPD.condOPN rfl (fun h3 => ?_) (fun h3 => ?_) | refine AWPD.condA rfl (fun h3 => ?_) (fun h3 => ?_) | refine AWPD.condO rfl (fun h3 => ?_) (fun h3 => ?_) | refine AWPD.cond rfl (fun h3 => ?_) (fun h3 => ?_)
        · try dsimp only [Ty.T] at h3
          try simp only [castL_self] at h3
          try simp only [Int.toNat_natCast] at h3
          try simp only [Int.toNat_zero] at h3
          have hjl : j < l.length := by omega
          refine AWPD.skip ?_
          refine hK20 _ _ ?_
          clear hK20
          refine AWPD.seq fun K22 hK22 => ?_
          refine AWPD.block ?_
          refine AWPD.seq fun K23 hK23 => ?_
          -- region 18
          refine AWPD.keep [0, 4, 7, 10, 12, 13, 14] rfl ?_
          refine AWPD.draw tabOK [] rfl (by kernel_rfl) ?_
          repeat refine And.intro (by first | exact fun h => h | exact fun _ => rfl | (intro h; rw [h]; rfl) | omega | (intros; (try dsimp only [Ty.T, Ty.size]); (try simp only [castL_self, Int.toNat_natCast, Int.toNat_zero, Int.toNat_one, true_and, List.length_append, List.length_set, List.length_drop, List.length_take, List.length_replicate, List.length_cons, List.length_nil, Nat.zero_add, Nat.mul_one]); omega) | decide | (intros; simp_all; done) | (intros; simp_all; omega)) ?_
          refine hK23 _ _ ?_
          clear hK23
          first | refine AWPD.cond rfl (fun h4 => ?_) (fun h4 => ?_)
          · try dsimp only [Ty.T] at h4
            try simp only [castL_self] at h4
            try simp only [Int.toNat_natCast] at h4
            try simp only [Int.toNat_zero] at h4
            exfalso
            have h4 := of_decide_eq_true h4
            have heq : l.getD j (0, 0) = (misV l).getD i (0, 0) := by
              simp only [List.cons.injEq, and_true] at h4
              exact Prod.ext h4.1 h4.2
            refine (misV_mem.1 (getD_mem hil (0, 0))).2.2 ?_
            rw [← heq]
            exact getD_mem hjl (0, 0)
          · try dsimp only [Ty.T] at h4
            try simp only [castL_self] at h4
            try simp only [Int.toNat_natCast] at h4
            try simp only [Int.toNat_zero] at h4
            refine AWPD.skip ?_
            refine hK22 _ _ ?_
            clear hK22
            -- region 17
            refine AWPD.keep [0, 4, 7, 10, 12, 13, 14] rfl ?_
            refine AWPD.region tabOK rfl ?_
            repeat refine And.intro (by first | exact fun h => h | exact fun _ => rfl | (intro h; rw [h]; rfl) | omega | (intros; (try dsimp only [Ty.T, Ty.size]); (try simp only [castL_self, Int.toNat_natCast, Int.toNat_zero, Int.toNat_one, true_and, List.length_append, List.length_set, List.length_drop, List.length_take, List.length_replicate, List.length_cons, List.length_nil, Nat.zero_add, Nat.mul_one]); omega) | decide | (intros; simp_all; done) | (intros; simp_all; omega)) ?_
            refine ⟨n1 - 1, j + 1, [], by omega, by omega, ⟨by decide, rfl⟩, trivial, ?_⟩
            repeat' first | exact True.intro | exact rfl | exact ⟨rfl, rfl⟩ | refine And.intro ?_ ?_
        · try dsimp only [Ty.T] at h3
          try simp only [castL_self] at h3
          try simp only [Int.toNat_natCast] at h3
          try simp only [Int.toNat_zero] at h3
          refine AWPD.exit ?_
          refine hK18 _ _ ?_
          clear hK18
          -- region 14
          refine AWPD.keep [0, 4, 7, 10, 12, 13] rfl ?_
          refine AWPD.region tabOK rfl ?_
          repeat refine And.intro (by first | exact fun h => h | exact fun _ => rfl | (intro h; rw [h]; rfl) | omega | (intros; (try dsimp only [Ty.T, Ty.size]); (try simp only [castL_self, Int.toNat_natCast, Int.toNat_zero, Int.toNat_one, true_and, List.length_append, List.length_set, List.length_drop, List.length_take, List.length_replicate, List.length_cons, List.length_nil, Nat.zero_add, Nat.mul_one]); omega) | decide | (intros; simp_all; done) | (intros; simp_all; omega)) ?_
          refine ⟨n0 - 1, i + 1, [], by omega, by omega, ⟨by decide, rfl⟩, trivial, ?_⟩
          repeat' first | exact True.intro | exact rfl | exact ⟨rfl, rfl⟩ | refine And.intro ?_ ?_
      · try dsimp only [Ty.T] at h2
        try simp only [castL_self] at h2
        try simp only [Int.toNat_natCast] at h2
        try simp only [Int.toNat_zero] at h2
        refine AWPD.exit ?_
        refine hK14 _ _ ?_
        clear hK14
        refine AWPD.seq fun K24 hK24 => ?_
        -- region 20
        refine AWPD.keep [4, 7, 10, 12] rfl ?_
        refine AWPD.region tabOK rfl ?_
        repeat refine And.intro (by first | exact fun h => h | exact fun _ => rfl | (intro h; rw [h]; rfl) | omega | (intros; (try dsimp only [Ty.T, Ty.size]); (try simp only [castL_self, Int.toNat_natCast, Int.toNat_zero, Int.toNat_one, true_and, List.length_append, List.length_set, List.length_drop, List.length_take, List.length_replicate, List.length_cons, List.length_nil, Nat.zero_add, Nat.mul_one]); omega) | decide | (intros; simp_all; done) | (intros; simp_all; omega)) ?_
        refine hK24 _ _ ?_
        clear hK24
        refine AWPD.ret (And.intro (.inl rfl) ?_)
        -- result 1
        refine RetD.one ?_
        refine fitB rfl ?_
        unfold blindB
        rw [hw, mix_blind, he]
        simp
end Go.Proofs.Ytkncfjcmhaaafaa
