/-
  WALKS of what is reached, and of the law that a run is cut anywhere. Laid by a program of mine out of the operations, with the loops and results told by hand.
-/
import Derived.Test.YtndoigkmdcgjfaaDoorQwAg
namespace Go.Proofs.YtndoigkmdcgjfaaDoor
open Go Go.Qw
set_option maxRecDepth 10000
set_option linter.unusedSimpArgs false
set_option linter.unusedVariables false
set_option linter.unusedSectionVars false


theorem idx_int (x : Int) : ∀ (xs : List Int) (k : Nat), (idxK .int x xs k).isSome = true ↔ x ∈ xs
  | [], k => by simp [idxK]
  | y :: ys, k => by
    have ih := idx_int x ys (k + 1)
    rw [idxK]
    by_cases h : x = y
    · subst h; simp
    · rw [if_neg (by simpa [keyL] using h), ih]
      simp [h]
theorem qAdd_or (x : Int) (xs : List Int) : (qAdd .int x xs = xs ∧ x ∈ xs) ∨ (qAdd .int x xs = xs ++ [x] ∧ x ∉ xs) := by
  unfold qAdd
  by_cases h : (idxK .int x xs 0).isSome = true
  · exact .inl ⟨if_pos h, (idx_int x xs 0).1 h⟩
  · exact .inr ⟨if_neg h, fun hm => h ((idx_int x xs 0).2 hm)⟩
theorem qAdd_mem {x y : Int} {xs : List Int} : y ∈ qAdd .int x xs ↔ y ∈ xs ∨ y = x := by
  rcases qAdd_or x xs with ⟨h, hm⟩ | ⟨h, hm⟩
  · rw [h]
    exact ⟨.inl, fun h => h.elim id (fun e => e ▸ hm)⟩
  · rw [h, List.mem_append, List.mem_singleton]
theorem qAdd_nodup {x : Int} {xs : List Int} (hn : xs.Nodup) : (qAdd .int x xs).Nodup := by
  rcases qAdd_or x xs with ⟨h, hm⟩ | ⟨h, hm⟩
  · rw [h]; exact hn
  · rw [h, List.nodup_append]
    exact ⟨hn, by simp, fun a ha b hb e => hm (by rw [List.mem_singleton] at hb; rw [← hb, ← e]; exact ha)⟩
theorem qAdd_pre (x : Int) (xs : List Int) : xs <+: qAdd .int x xs := by
  rcases qAdd_or x xs with ⟨h, hm⟩ | ⟨h, hm⟩
  · rw [h]; exact List.prefix_rfl
  · rw [h]; exact List.prefix_append ..
/-- As many as fit, where none is there twice. -/
theorem few_apart : ∀ (n : Nat) (xs : List Int), xs.Nodup → (∀ x ∈ xs, 0 ≤ x ∧ x < (n : Int)) → xs.length ≤ n
  | 0, [], _, _ => Nat.le_refl _
  | 0, x :: xs, _, h => by have := h x List.mem_cons_self; omega
  | n + 1, xs, hn, h => by
    have ih := few_apart n (xs.erase (n : Int)) (hn.erase _) (fun x hx => by
      have h1 := h x (List.mem_of_mem_erase hx)
      have h2 := (hn.mem_erase_iff.1 hx).1
      omega)
    have := List.length_erase (a := (n : Int)) (l := xs)
    split at this <;> omega
def reI (row : List Int) (xs : List Int) : Nat → List Int
  | 0 => xs
  | k + 1 => qAdd .int (row.getD k 0) (reI row xs k)
/-- The queue behind so many of its states. -/
def reO (N : List (List Int)) : Nat → List Int
  | 0 => qAdd .int 0 []
  | k + 1 => reI (N.getD ((reO N k).getD k 0).toNat []) (reO N k) (N.getD ((reO N k).getD k 0).toNat []).length
def reS (N : List (List Int)) : Nat → Nat
  | 0 => 0
  | k + 1 => reS N k ||| 2 ^ ((reO N k).getD k 0).toNat
def stopAt (f : Nat → Nat) : Nat → Nat → Nat
  | 0, k => k
  | n + 1, k => if k < f k then stopAt f n (k + 1) else k
def reEnd (N : List (List Int)) : Nat := stopAt (fun k => (reO N k).length) 17 0
def reachN (N : List (List Int)) : Nat := reS N (reEnd N)
theorem reI_pre (row xs : List Int) : ∀ k, xs <+: reI row xs k
  | 0 => List.prefix_rfl
  | k + 1 => (reI_pre row xs k).trans (qAdd_pre _ _)
theorem reI_nodup {row xs : List Int} (h : xs.Nodup) : ∀ k, (reI row xs k).Nodup
  | 0 => h
  | k + 1 => qAdd_nodup (reI_nodup h k)
theorem reI_mem {row xs : List Int} {y : Int} : ∀ {k}, y ∈ reI row xs k ↔ y ∈ xs ∨ ∃ j, j < k ∧ y = row.getD j 0
  | 0 => by simp [reI]
  | k + 1 => by
    rw [reI, qAdd_mem, reI_mem]
    constructor
    · rintro ((h | ⟨j, h1, h2⟩) | h)
      · exact .inl h
      · exact .inr ⟨j, by omega, h2⟩
      · exact .inr ⟨k, by omega, h⟩
    · rintro (h | ⟨j, h1, h2⟩)
      · exact .inl (.inl h)
      · rcases Nat.lt_or_ge j k with h3 | h3
        · exact .inl (.inr ⟨j, h3, h2⟩)
        · exact .inr (by rw [h2, show j = k by omega])
theorem reO_pre (N : List (List Int)) (k : Nat) : reO N k <+: reO N (k + 1) := reI_pre _ _ _
theorem reO_nodup (N : List (List Int)) : ∀ k, (reO N k).Nodup
  | 0 => qAdd_nodup (by simp)
  | k + 1 => reI_nodup (reO_nodup N k) _
theorem reO_zero (N : List (List Int)) : ∀ k, (0 : Int) ∈ reO N k
  | 0 => qAdd_mem.2 (.inr rfl)
  | k + 1 => (reO_pre N k).subset (reO_zero N k)
theorem GoodM.reI_in {P : Int} {A : List Int} {N S : List (List Int)} (g : GoodM P A N S) {s : Nat} (hs : s < N.length) {xs : List Int} (h : ∀ x ∈ xs, 0 ≤ x ∧ x < (N.length : Int)) {k : Nat} (hk : k ≤ (N.getD s []).length) : ∀ x ∈ reI (N.getD s []) xs k, 0 ≤ x ∧ x < (N.length : Int) := fun x hx => by
  rcases reI_mem.1 hx with h1 | ⟨j, h1, rfl⟩
  · exact h x h1
  · have := g.next s hs j (by omega)
    omega
theorem getD_in {xs : List Int} {n : Int} (hn : 0 < n) (h : ∀ x ∈ xs, 0 ≤ x ∧ x < n) (k : Nat) : 0 ≤ xs.getD k 0 ∧ xs.getD k 0 < n := by
  by_cases hk : k < xs.length
  · exact h _ (getD_mem hk 0)
  · simp [List.getD, hk]; omega
theorem GoodM.reO_in {P : Int} {A : List Int} {N S : List (List Int)} (g : GoodM P A N S) : ∀ k, ∀ x ∈ reO N k, 0 ≤ x ∧ x < (N.length : Int)
  | 0, x, hx => by
    have := g.some
    rcases qAdd_mem.1 hx with h | h
    · cases h
    · omega
  | k + 1, x, hx => by
    have hs := g.some
    have := getD_in (by omega) (g.reO_in k) k
    exact g.reI_in (by omega) (g.reO_in k) (Nat.le_refl _) x hx
theorem GoodM.reI_few {P : Int} {A : List Int} {N S : List (List Int)} (g : GoodM P A N S) {k j : Nat} (hj : j ≤ (N.getD ((reO N k).getD k 0).toNat []).length) : (reI (N.getD ((reO N k).getD k 0).toNat []) (reO N k) j).length ≤ 16 := by
  have hs := g.some
  have h1 := getD_in (by omega) (g.reO_in k) k
  have := few_apart _ _ (reI_nodup (reO_nodup N k) j) (g.reI_in (s := ((reO N k).getD k 0).toNat) (by omega) (g.reO_in k) hj)
  have := g.few
  omega
theorem GoodM.reO_few {P : Int} {A : List Int} {N S : List (List Int)} (g : GoodM P A N S) (k : Nat) : (reO N k).length ≤ 16 := by
  have := few_apart _ _ (reO_nodup N k) (g.reO_in k)
  have := g.few
  omega
theorem GoodM.reO_at {P : Int} {A : List Int} {N S : List (List Int)} (g : GoodM P A N S) (k : Nat) : 0 ≤ (reO N k).getD k 0 ∧ (reO N k).getD k 0 < (N.length : Int) ∧ (reO N k).getD k 0 ≤ 15 := by
  have hs := g.some
  have h1 := getD_in (by omega) (g.reO_in k) k
  have := g.few
  omega
theorem or_lt16 {a b : Nat} (ha : a < 65536) (hb : b < 65536) : a ||| b < 65536 := Nat.or_lt_two_pow (n := 16) ha hb
theorem GoodM.reS_lt {P : Int} {A : List Int} {N S : List (List Int)} (g : GoodM P A N S) : ∀ k, reS N k < 65536
  | 0 => by simp [reS]
  | k + 1 => by
    have := g.reO_at k
    exact or_lt16 (g.reS_lt k) (Nat.pow_lt_pow_right (a := 2) (n := 16) (by decide) (by omega))
theorem or_two {a : Nat} {p : Int} (ha : a < 65536) (hp : 0 ≤ p ∧ p ≤ 15) : bitsI .or (a : Int) (IntKind.i64.wrap (1 * 2 ^ (min p.toNat 64))) = ((a ||| 2 ^ p.toNat : Nat) : Int) := by
  have h := Nat.pow_le_pow_right (n := 2) (by decide) (show p.toNat ≤ 15 by omega)
  rw [shl_one (by omega)]
  generalize 2 ^ p.toNat = q at h ⊢
  rw [bits_or (by omega) (by omega), Int.toNat_natCast, Int.toNat_natCast]
/-- Where it stops: there is no further state. -/
theorem stop_spec (f : Nat → Nat) (hm : ∀ k, f k ≤ f (k + 1)) (hb : ∀ k, f k ≤ 17) : ∀ n k, n + k = 17 → k ≤ f k → f (stopAt f n k) ≤ stopAt f n k ∧ stopAt f n k ≤ f (stopAt f n k)
  | 0, k, h, hk => by
    have := hb k
    rw [stopAt]
    omega
  | n + 1, k, h, hk => by
    rw [stopAt]
    split
    · rename_i hlt
      have := hm k
      exact stop_spec f hm hb n (k + 1) (by omega) (by omega)
    · omega
theorem GoodM.re_end {P : Int} {A : List Int} {N S : List (List Int)} (g : GoodM P A N S) : (reO N (reEnd N)).length = reEnd N := by
  have := stop_spec (fun k => (reO N k).length) (fun k => (reO_pre N k).length_le) (fun k => by have := g.reO_few k; show (reO N k).length ≤ 17; omega) 17 0 rfl (Nat.zero_le _)
  have h1 : (reO N (reEnd N)).length ≤ reEnd N := this.1
  have h2 : reEnd N ≤ (reO N (reEnd N)).length := this.2
  omega
theorem reO_mono (N : List (List Int)) {i : Nat} : ∀ {j}, i ≤ j → reO N i <+: reO N j
  | 0, h => by rw [show i = 0 by omega]; exact List.prefix_rfl
  | j + 1, h => by
    rcases Nat.lt_or_ge i (j + 1) with h1 | h1
    · exact (reO_mono N (by omega)).trans (reO_pre N j)
    · rw [show i = j + 1 by omega]; exact List.prefix_rfl
theorem getD_pre {xs ys : List Int} (h : xs <+: ys) {k : Nat} (hk : k < xs.length) : ys.getD k 0 = xs.getD k 0 := by
  obtain ⟨t, rfl⟩ := h
  simp only [List.getD, List.getElem?_append_left hk]
theorem reO_long (N : List (List Int)) : ∀ n k, n + k = 17 → k ≤ (reO N k).length → ∀ j, k ≤ j → j < stopAt (fun k => (reO N k).length) n k → j < (reO N j).length
  | 0, k, _, _, j, hj, hlt => by rw [stopAt] at hlt; omega
  | n + 1, k, h, hk, j, hj, hlt => by
    rw [stopAt] at hlt
    split at hlt
    · rename_i h1
      rcases Nat.lt_or_ge k j with h2 | h2
      · have := (reO_pre N k).length_le
        have h1 : k < (reO N k).length := h1
        exact reO_long N n (k + 1) (by omega) (by omega) j (by omega) hlt
      · rw [show j = k by omega]; exact h1
    · omega
theorem reS_bit (N : List (List Int)) (i : Nat) : ∀ k, (reS N k).testBit i = true ↔ ∃ j, j < k ∧ ((reO N j).getD j 0).toNat = i
  | 0 => by simp [reS]
  | k + 1 => by
    rw [reS, Nat.testBit_or, Bool.or_eq_true, reS_bit N i k, Nat.testBit_two_pow, decide_eq_true_eq]
    constructor
    · rintro (⟨j, h1, h2⟩ | h)
      · exact ⟨j, by omega, h2⟩
      · exact ⟨k, by omega, h⟩
    · rintro ⟨j, h1, h2⟩
      rcases Nat.lt_or_ge j k with h3 | h3
      · exact .inl ⟨j, h3, h2⟩
      · exact .inr (by rw [← h2, show j = k by omega])
/-- What is reached: the states of the last queue. -/
theorem GoodM.reach_bit {P : Int} {A : List Int} {N S : List (List Int)} (g : GoodM P A N S) {x : Int} (hx : 0 ≤ x) : (reachN N).testBit x.toNat = true ↔ x ∈ reO N (reEnd N) := by
  have hlen := g.re_end
  have long : ∀ j, j < reEnd N → j < (reO N j).length := fun j hj => reO_long N 17 0 rfl (Nat.zero_le _) j (Nat.zero_le _) hj
  unfold reachN
  rw [reS_bit]
  constructor
  · rintro ⟨j, h1, h2⟩
    have hm := getD_pre (reO_mono N (Nat.le_of_lt h1)) (long j h1)
    have ha := g.reO_at j
    rw [show x = (reO N j).getD j 0 by omega, ← hm]
    exact getD_mem (by omega) 0
  · intro hm
    obtain ⟨j, hj, e⟩ := List.mem_iff_getElem.1 hm
    have e2 : (reO N (reEnd N)).getD j 0 = x := by simp [List.getD, hj, e]
    have := getD_pre (reO_mono N (show j ≤ reEnd N by omega)) (long j (by omega))
    exact ⟨j, by omega, by rw [← this, e2]⟩
theorem GoodM.reach_next {P : Int} {A : List Int} {N S : List (List Int)} (g : GoodM P A N S) {x : Int} {a : Nat} (hx : x ∈ reO N (reEnd N)) (ha : a < A.length) : (N.getD x.toNat []).getD a 0 ∈ reO N (reEnd N) := by
  have hlen := g.re_end
  have long : ∀ j, j < reEnd N → j < (reO N j).length := fun j hj => reO_long N 17 0 rfl (Nat.zero_le _) j (Nat.zero_le _) hj
  obtain ⟨j, hj, e⟩ := List.mem_iff_getElem.1 hx
  have hin := g.reO_in _ x hx
  have e2 : (reO N (reEnd N)).getD j 0 = x := by simp [List.getD, hj, e]
  have e3 := getD_pre (reO_mono N (show j ≤ reEnd N by omega)) (long j (by omega))
  rw [e2] at e3
  have hr := g.rowN x.toNat (by omega)
  refine (reO_mono N (show j + 1 ≤ reEnd N by omega)).subset ?_
  rw [reO, ← e3]
  exact reI_mem.2 (.inr ⟨a, by omega, rfl⟩)
theorem GoodM.reach_run {P : Int} {A : List Int} {N S : List (List Int)} (g : GoodM P A N S) {s : Int} {w : List Int} (hw : inAll w ((A.length : Int) - 1)) (hs : s ∈ reO N (reEnd N)) : ∀ i, i ≤ w.length → runN N s w i ∈ reO N (reEnd N)
  | 0, _ => hs
  | i + 1, h => by
    have := hw i (by omega)
    exact g.reach_next (g.reach_run hw hs i (by omega)) (by omega)
theorem GoodM.reach_in {P : Int} {A : List Int} {N S : List (List Int)} (g : GoodM P A N S) : 1 ≤ reachN N ∧ reachN N ≤ 65535 := by
  have h1 := g.reS_lt (reEnd N)
  have h2 := (g.reach_bit (Int.le_refl 0)).2 (reO_zero N _)
  refine ⟨?_, by unfold reachN; omega⟩
  rcases Nat.eq_zero_or_pos (reachN N) with h | h
  · rw [h, Nat.zero_testBit] at h2; cases h2
  · exact h
def reachV (P : Int) (A : List Int) (N S : List (List Int)) : Int := if machE P A N S = 0 then ((reachN N : Nat) : Int) else 0
/-- A run, cut. -/
theorem run_app (N : List (List Int)) (s : Int) (v w : List Int) : ∀ i, i ≤ v.length → runN N s (v ++ w) i = runN N s v i
  | 0, _ => rfl
  | i + 1, h => by
    rw [runN, runN, run_app N s v w i (by omega)]
    congr 2
    simp [List.getD, List.getElem?_append_left (show i < v.length by omega)]
theorem run_behind (N : List (List Int)) (s : Int) (v w : List Int) : ∀ i, i ≤ w.length → runN N s (v ++ w) (v.length + i) = runN N (runN N s v v.length) w i
  | 0, _ => by rw [Nat.add_zero, run_app N s v w _ (Nat.le_refl _)]; rfl
  | i + 1, h => by
    rw [← Nat.add_assoc, runN, runN, run_behind N s v w i (by omega)]
    congr 2
    simp [List.getD, List.getElem?_append_right]

theorem reached_fn (P : Int) (A : List Int) (N S : List (List Int)) : LiftsD Tryd.prog 20 [.agg [.i P, .sl .int A, .sl (.sl .int) N, .sl (.sl .int) S]] (.tup [.i (reachV P A N S), .er 81 (machE P A N S)]) := by
  refine LiftsD.of_body 41 [.tmp 2, .tmp 3] Tryd.func20 rfl Tryd.ntmps20 (by kernel_rfl) rfl rfl fun w0 X0 => ?_
  refine AWPD.seq fun K1 hK1 => ?_
  -- region 0
  refine AWPD.keep [0] rfl ?_
  refine AWPD.region tabOK rfl ?_
  refine hK1 _ _ ?_
  clear hK1
  refine AWPD.seq fun K2 hK2 => ?_
  refine AWPD.seq fun K3 hK3 => ?_
  -- region 1
  refine AWPD.keep [1] rfl ?_
  refine AWPD.region tabOK rfl ?_
  repeat refine And.intro (by first | exact fun h => h | exact fun _ => rfl | (intro h; rw [h]; rfl) | omega | (intros; (try dsimp only [Ty.T, Ty.size]); (try simp only [castL_self, Int.toNat_natCast, Int.toNat_zero, Int.toNat_one, true_and, List.length_append, List.length_set, List.length_drop, List.length_take, List.length_replicate, List.length_cons, List.length_nil, Nat.zero_add, Nat.mul_one]); omega) | decide | (intros; simp_all; done) | (intros; simp_all; omega)) ?_
  refine Exists.intro _ (Exists.intro _ (And.intro (StepD.call (check_fn _ _ _ _) rfl rfl rfl) (And.intro rfl (And.intro trivial ?_))))
  refine hK3 _ _ ?_
  clear hK3
  refine AWPD.seq fun K4 hK4 => ?_
  -- region 2
  refine AWPD.keep [1, 4] rfl ?_
  refine AWPD.region tabOK rfl ?_
  refine hK4 _ _ ?_
  clear hK4
  first | refine AWPD.condP rfl (fun h0 => ?_) (fun h0 => ?_) | refine AWPD.condN rfl (fun h0 => ?_) (fun h0 => ?_) | refine AWPD.condAP rfl (fun h0 => ?_) (fun h0 => ?_) | refine AWPD.condOP rfl (fun h0 => ?_) (fun h0 => ?_) | refine AWPD.condONN rfl (fun h0 => ?_) (fun h0 => ?_) | refine AWPD.condOPN rfl (fun h0 => ?_) (fun h0 => ?_) | refine AWPD.condA rfl (fun h0 => ?_) (fun h0 => ?_) | refine AWPD.condO rfl (fun h0 => ?_) (fun h0 => ?_) | refine AWPD.cond rfl (fun h0 => ?_) (fun h0 => ?_)
  · try dsimp only [Ty.T] at h0
    try simp only [castL_self] at h0
    try simp only [Int.toNat_natCast] at h0
    try simp only [Int.toNat_zero] at h0
    refine AWPD.seq fun K5 hK5 => ?_
    -- region 3
    refine AWPD.keep [4] rfl ?_
    refine AWPD.region tabOK rfl ?_
    refine hK5 _ _ ?_
    clear hK5
    refine AWPD.ret (And.intro (.inl rfl) ?_)
    -- result 0
    exact ⟨fitI rfl (by unfold reachV; rw [if_neg (by simpa using h0)]), fitE rfl rfl⟩
  · try dsimp only [Ty.T] at h0
    try simp only [castL_self] at h0
    try simp only [Int.toNat_natCast] at h0
    try simp only [Int.toNat_zero] at h0
    have he : machE P A N S = 0 := by simpa using h0
    have g := mach_good he
    have g16 := g.few
    have gs := g.some
    have g6 := g.acts6
    refine AWPD.skip ?_
    refine hK2 _ _ ?_
    clear hK2
    refine AWPD.seq fun K6 hK6 => ?_
    -- region 4
    refine AWPD.keep [1] rfl ?_
    refine AWPD.region tabOK rfl ?_
    refine hK6 _ _ ?_
    clear hK6
    refine AWPD.seq fun K7 hK7 => ?_
    -- region 5
    refine AWPD.newQ 0 3 .int rfl ?_
    refine AWPD.keep [1, 5] rfl ?_
    refine AWPD.region tabOK rfl ?_
    refine Exists.intro _ (Exists.intro _ (And.intro (StepD.callO (i := 0) (addI_fn 0 [] (by decide)) rfl rfl rfl rfl (by first | exact rfl | exact row_free _ _ _) (by first | exact rfl | exact row_free _ _ _)) (And.intro rfl (And.intro trivial ?_))))
    refine hK7 _ _ ?_
    clear hK7
    refine AWPD.seq fun K8 hK8 => ?_
    -- region 6
    refine AWPD.keep [1, 5] rfl ?_
    refine AWPD.region tabOK rfl ?_
    refine hK8 _ _ ?_
    clear hK8
    refine AWPD.seq fun K9 hK9 => ?_
    refine AWPD.seq fun K10 hK10 => ?_
    -- region 7
    refine AWPD.keep [1, 5, 6] rfl ?_
    refine AWPD.region tabOK rfl ?_
    refine hK10 _ _ ?_
    clear hK10
    refine AWPD.block ?_
    -- LOOP 0 live [1, 5, 6, 7] changed [6, 7]
    refine AWPD.loopK (σ := Nat) [1] (fun k base => (5, .op 0 0) :: (7, .i (k : Int)) :: (6, .i ((reS N k : Nat) : Int)) :: base) (fun k => [.que 76 3 .int (reO N k)]) (fun n k => n + k = 17 ∧ stopAt (fun k => (reO N k).length) n k = reEnd N ∧ k ≤ (reO N k).length) (17) 0 [0] rfl rfl (⟨rfl, rfl, Nat.zero_le _⟩) (by decide) ⟨rfl, trivial⟩ (by repeat' first | exact True.intro | exact rfl | exact ⟨rfl, rfl⟩ | refine And.intro ?_ ?_) fun n0 k hI0 => ?_
    obtain ⟨hn0, hs0, hk0⟩ := hI0
    have hfew := g.reO_few k
    have hat := g.reO_at k
    have hsl := g.reS_lt k
    have hrow := g.rowN ((reO N k).getD k 0).toNat (by omega)
    have hpre := (reO_pre N k).length_le
    refine AWPD.seq fun K11 hK11 => ?_
    refine AWPD.seq fun K12 hK12 => ?_
    -- region 8
    refine AWPD.keep [1, 5, 6, 7] rfl ?_
    refine AWPD.region tabOK rfl ?_
    refine Exists.intro _ (Exists.intro _ (And.intro (StepD.callO (i := 0) (lenI_fn _) rfl rfl rfl rfl (by first | exact rfl | exact row_free _ _ _) (by first | exact rfl | exact row_free _ _ _)) (And.intro rfl (And.intro trivial ?_))))
    refine hK12 _ _ ?_
    clear hK12
    first | refine AWPD.condP rfl (fun h1 => ?_) (fun h1 => ?_) | refine AWPD.condN rfl (fun h1 => ?_) (fun h1 => ?_) | refine AWPD.condAP rfl (fun h1 => ?_) (fun h1 => ?_) | refine AWPD.condOP rfl (fun h1 => ?_) (fun h1 => ?_) | refine AWPD.condONN rfl (fun h1 => ?_) (fun h1 => ?_) | refine AWPD.condOPN rfl (fun h1 => ?_) (fun h1 => ?_) | refine AWPD.condA rfl (fun h1 => ?_) (fun h1 => ?_) | refine AWPD.condO rfl (fun h1 => ?_) (fun h1 => ?_) | refine AWPD.cond rfl (fun h1 => ?_) (fun h1 => ?_)
    · try dsimp only [Ty.T] at h1
      try simp only [castL_self] at h1
      try simp only [Int.toNat_natCast] at h1
      try simp only [Int.toNat_zero] at h1
      refine AWPD.skip ?_
      refine hK11 _ _ ?_
      clear hK11
      refine AWPD.seq fun K13 hK13 => ?_
      refine AWPD.block ?_
      refine AWPD.seq fun K14 hK14 => ?_
      -- region 10
      refine AWPD.keep [1, 5, 6, 7] rfl ?_
      refine AWPD.region tabOK rfl ?_
      refine Exists.intro _ (Exists.intro _ (And.intro (StepD.callO (i := 0) (atI_fn (k : Int) (reO N k) (by omega)) rfl rfl rfl rfl (by first | exact rfl | exact row_free _ _ _) (by first | exact rfl | exact row_free _ _ _)) (And.intro rfl (And.intro trivial ?_))))
      repeat refine And.intro (by first | exact fun h => h | exact fun _ => rfl | (intro h; rw [h]; rfl) | omega | (intros; (try dsimp only [Ty.T, Ty.size]); (try simp only [castL_self, Int.toNat_natCast, Int.toNat_zero, Int.toNat_one, true_and, List.length_append, List.length_set, List.length_drop, List.length_take, List.length_replicate, List.length_cons, List.length_nil, Nat.zero_add, Nat.mul_one]); omega) | decide | (intros; simp_all; done) | (intros; simp_all; omega)) ?_
      refine hK14 _ _ ?_
      clear hK14
      refine AWPD.seq fun K15 hK15 => ?_
      -- region 11
      refine AWPD.keep [1, 5, 6, 7] rfl ?_
      refine AWPD.draw tabOK [] rfl (by kernel_rfl) ?_
      repeat refine And.intro (by first | exact fun h => h | exact fun _ => rfl | (intro h; rw [h]; rfl) | omega | (intros; (try dsimp only [Ty.T, Ty.size]); (try simp only [castL_self, Int.toNat_natCast, Int.toNat_zero, Int.toNat_one, true_and, List.length_append, List.length_set, List.length_drop, List.length_take, List.length_replicate, List.length_cons, List.length_nil, Nat.zero_add, Nat.mul_one]); omega) | decide | (intros; simp_all; done) | (intros; simp_all; omega)) ?_
      refine Exists.intro _ (Exists.intro _ (And.intro (StepD.callO (i := 0) (atI_fn (k : Int) (reO N k) (by omega)) rfl rfl rfl rfl (by first | exact rfl | exact row_free _ _ _) (by first | exact rfl | exact row_free _ _ _)) (And.intro rfl (And.intro rfl ?_))))
      repeat refine And.intro (by first | exact fun h => h | exact fun _ => rfl | (intro h; rw [h]; rfl) | omega | (intros; (try dsimp only [Ty.T, Ty.size]); (try simp only [castL_self, Int.toNat_natCast, Int.toNat_zero, Int.toNat_one, true_and, List.length_append, List.length_set, List.length_drop, List.length_take, List.length_replicate, List.length_cons, List.length_nil, Nat.zero_add, Nat.mul_one]); omega) | decide | (intros; simp_all; done) | (intros; simp_all; omega)) ?_
      refine hK15 _ _ ?_
      clear hK15
      refine AWPD.block ?_
      -- LOOP 1 live [1, 5, 6, 7, 31, 32, 33] changed [33]
      refine AWPD.loopK (σ := Nat) [1, 6, 7, 31, 32] (fun j base => (5, .op 0 0) :: (33, .i (j : Int)) :: base) (fun j => [.que 76 3 .int (reI (N.getD ((reO N k).getD k 0).toNat []) (reO N k) j)]) (fun n j => n + j = (N.getD ((reO N k).getD k 0).toNat []).length) ((N.getD ((reO N k).getD k 0).toNat []).length) 0 [0] rfl rfl (by omega) (by decide) ⟨rfl, trivial⟩ (by repeat' first | exact True.intro | exact rfl | exact ⟨rfl, rfl⟩ | refine And.intro ?_ ?_) fun n1 j hI1 => ?_
      have hn1 := hI1
      have hif := g.reI_few (k := k) (j := j) (by omega)
      refine AWPD.seq fun K16 hK16 => ?_
      -- region 12
      refine AWPD.keep [1, 5, 6, 7, 31, 32, 33] rfl ?_
      refine AWPD.region tabOK rfl ?_
      refine hK16 _ _ ?_
      clear hK16
      refine AWPD.seq fun K17 hK17 => ?_
      first | refine AWPD.condP rfl (fun h2 => ?_) (fun h2 => ?_) | refine AWPD.condN rfl (fun h2 => ?_) (fun h2 => ?_) | refine AWPD.condAP rfl (fun h2 => ?_) (fun h2 => ?_) | refine AWPD.condOP rfl (fun h2 => ?_) (fun h2 => ?_) | refine AWPD.condONN rfl (fun h2 => ?_) (fun h2 => ?_) | refine AWPD.condOPN rfl (fun h2 => ?_) (fun h2 => ?_) | refine AWPD.condA rfl (fun h2 => ?_) (fun h2 => ?_) | refine AWPD.condO rfl (fun h2 => ?_) (fun h2 => ?_) | refine AWPD.cond rfl (fun h2 => ?_) (fun h2 => ?_)
      · try dsimp only [Ty.T] at h2
        try simp only [castL_self] at h2
        try simp only [Int.toNat_natCast] at h2
        try simp only [Int.toNat_zero] at h2
        refine AWPD.skip ?_
        refine hK17 _ _ ?_
        clear hK17
        refine AWPD.seq fun K18 hK18 => ?_
        refine AWPD.block ?_
        refine AWPD.seq fun K19 hK19 => ?_
        -- region 13
        refine AWPD.keep [1, 5, 6, 7, 31, 32, 33] rfl ?_
        refine AWPD.region tabOK rfl ?_
        repeat refine And.intro (by first | exact fun h => h | exact fun _ => rfl | (intro h; rw [h]; rfl) | omega | (intros; (try dsimp only [Ty.T, Ty.size]); (try simp only [castL_self, Int.toNat_natCast, Int.toNat_zero, Int.toNat_one, true_and, List.length_append, List.length_set, List.length_drop, List.length_take, List.length_replicate, List.length_cons, List.length_nil, Nat.zero_add, Nat.mul_one]); omega) | decide | (intros; simp_all; done) | (intros; simp_all; omega)) ?_
        refine hK19 _ _ ?_
        clear hK19
        -- region 14
        refine AWPD.keep [1, 5, 6, 7, 9, 31, 32, 33] rfl ?_
        refine AWPD.region tabOK rfl ?_
        refine Exists.intro _ (Exists.intro _ (And.intro (StepD.callO (i := 0) (addI_fn _ _ (by omega)) rfl rfl rfl rfl (by first | exact rfl | exact row_free _ _ _) (by first | exact rfl | exact row_free _ _ _)) (And.intro rfl (And.intro trivial ?_))))
        refine hK18 _ _ ?_
        clear hK18
        -- region 15
        refine AWPD.keep [1, 5, 6, 7, 31, 32, 33] rfl ?_
        refine AWPD.region tabOK rfl ?_
        repeat refine And.intro (by first | exact fun h => h | exact fun _ => rfl | (intro h; rw [h]; rfl) | omega | (intros; (try dsimp only [Ty.T, Ty.size]); (try simp only [castL_self, Int.toNat_natCast, Int.toNat_zero, Int.toNat_one, true_and, List.length_append, List.length_set, List.length_drop, List.length_take, List.length_replicate, List.length_cons, List.length_nil, Nat.zero_add, Nat.mul_one]); omega) | decide | (intros; simp_all; done) | (intros; simp_all; omega)) ?_
        refine ⟨n1 - 1, j + 1, [0], by omega, by omega, ⟨by decide, rfl⟩, ⟨rfl, trivial⟩, ?_⟩
        repeat' first | exact True.intro | exact rfl | exact ⟨rfl, rfl⟩ | refine And.intro ?_ ?_
      · try dsimp only [Ty.T] at h2
        try simp only [castL_self] at h2
        try simp only [Int.toNat_natCast] at h2
        try simp only [Int.toNat_zero] at h2
        refine AWPD.exit ?_
        refine hK13 _ _ ?_
        clear hK13
        -- region 9
        refine AWPD.keep [1, 5, 6, 7] rfl ?_
        refine AWPD.region tabOK rfl ?_
        repeat refine And.intro (by first | exact fun h => h | exact fun _ => rfl | (intro h; rw [h]; rfl) | omega | (intros; (try dsimp only [Ty.T, Ty.size]); (try simp only [castL_self, Int.toNat_natCast, Int.toNat_zero, Int.toNat_one, true_and, List.length_append, List.length_set, List.length_drop, List.length_take, List.length_replicate, List.length_cons, List.length_nil, Nat.zero_add, Nat.mul_one]); omega) | decide | (intros; simp_all; done) | (intros; simp_all; omega)) ?_
        refine ⟨n0 - 1, k + 1, [0], by omega, ⟨by omega, by rw [← hs0]; conv => rhs; rw [show n0 = (n0 - 1) + 1 by omega, stopAt, if_pos (show k < (reO N k).length by omega)], by omega⟩, ⟨by decide, rfl⟩, ⟨(by show queR _ _ _ _ = queR _ _ _ _; rw [reO, show (N.getD ((reO N k).getD k 0).toNat []).length = j by omega]), trivial⟩, ?_⟩
        repeat' first | (show bitsI .or ((reS N k : Nat) : Int) (IntKind.i64.wrap (1 * 2 ^ (min ((reO N k).getD k 0).toNat 64))) = ((reS N (k + 1) : Nat) : Int); rw [reS]; exact or_two (by omega) (by omega)) | exact True.intro | exact rfl | exact ⟨rfl, rfl⟩ | refine And.intro ?_ ?_
    · try dsimp only [Ty.T] at h1
      try simp only [castL_self] at h1
      try simp only [Int.toNat_natCast] at h1
      try simp only [Int.toNat_zero] at h1
      refine AWPD.exit ?_
      refine hK9 _ _ ?_
      clear hK9
      refine AWPD.seq fun K20 hK20 => ?_
      -- region 16
      refine AWPD.keep [6] rfl ?_
      refine AWPD.region tabOK rfl ?_
      refine hK20 _ _ ?_
      clear hK20
      refine AWPD.ret (And.intro (.inl rfl) ?_)
      -- result 1
      have hend : k = reEnd N := by rw [← hs0, show n0 = (n0 - 1) + 1 by omega, stopAt, if_neg (show ¬k < (reO N k).length by omega)]
      exact ⟨fitI rfl (by unfold reachV reachN; rw [if_pos he, hend]), fitE rfl he.symm⟩
end Go.Proofs.YtndoigkmdcgjfaaDoor
