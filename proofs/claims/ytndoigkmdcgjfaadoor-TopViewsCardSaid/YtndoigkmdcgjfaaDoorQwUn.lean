/-
  WALKS of what is alike to a part. Laid by a program of mine out of the operations, with the loops and results told by hand.
-/
import Derived.Test.YtndoigkmdcgjfaaDoorQwRe
import Derived.Test.YtndoigkmdcgjfaaDoorQwRp
import Derived.Test.YtndoigkmdcgjfaaDoorQwBi
import Derived.Test.YtndoigkmdcgjfaaDoorQwEr
namespace Go.Proofs.YtndoigkmdcgjfaaDoor
open Go Go.Qw
set_option maxRecDepth 10000
set_option linter.unusedSimpArgs false
set_option linter.unusedVariables false
set_option linter.unusedSectionVars false

/-! ### The views of a part -/

def j1 (N : List (List Int)) (A f : List Int) (part : Int) (s : Nat) (ρ : Nat → Nat) : Nat → Nat → Nat
  | 0 => ρ
  | a + 1 => if qaF A f part a = true then joinR (j1 N A f part s ρ a) s (nx N s a) else j1 N A f part s ρ a
def v1 (N : List (List Int)) (A f : List Int) (part : Int) (L : List Nat) : Nat → Nat → Nat
  | 0 => id
  | k + 1 => j1 N A f part (L.getD k 0) (v1 N A f part L k) A.length
abbrev St := (Nat → Nat) × Bool
def j2 (N : List (List Int)) (s t : Nat) (p : St) : Nat → St
  | 0 => p
  | a + 1 => (joinR (j2 N s t p a).1 (nx N s a) (nx N t a), bif decide ((j2 N s t p a).1 (nx N s a) ≠ (j2 N s t p a).1 (nx N t a)) then true else (j2 N s t p a).2)
def j2t (N : List (List Int)) (A : List Int) (L : List Nat) (s : Nat) (p : St) : Nat → St
  | 0 => p
  | k + 1 => if s < L.getD k 0 ∧ (j2t N A L s p k).1 s = (j2t N A L s p k).1 (L.getD k 0) then j2 N s (L.getD k 0) (j2t N A L s p k) A.length else j2t N A L s p k
def j2s (N : List (List Int)) (A : List Int) (L : List Nat) (p : St) : Nat → St
  | 0 => p
  | k + 1 => j2t N A L (L.getD k 0) (j2s N A L p k) L.length
def rnd (N : List (List Int)) (A : List Int) (L : List Nat) (ρ : Nat → Nat) : St := j2s N A L (ρ, false) L.length
def vW (N : List (List Int)) (A : List Int) (L : List Nat) : Nat → (Nat → Nat) → Nat → Nat
  | 0, ρ => ρ
  | m + 1, ρ => if (rnd N A L ρ).2 = true then vW N A L m (rnd N A L ρ).1 else (rnd N A L ρ).1
def vF (N : List (List Int)) (A f : List Int) (part : Int) : Nat → Nat := vW N A (bitsL (reachN N)) (N.length + 1) (v1 N A f part (bitsL (reachN N)) (bitsL (reachN N)).length)
/-- What holds all along: as a picture of classes; whoever of no more is joined has no more. -/
structure Run2 (n : Nat) (p q : St) : Prop where
  rep : RepP n q.1
  le : repN q.1 n ≤ repN p.1 n
  up : q.2 = true → p.2 = true ∨ repN q.1 n < repN p.1 n
  still : q.2 = false → p.2 = false ∧ q.1 = p.1
theorem Run2.refl {n : Nat} {p : St} (h : RepP n p.1) : Run2 n p p := ⟨h, Nat.le_refl _, .inl, fun h => ⟨h, rfl⟩⟩
theorem Run2.trans {n : Nat} {p q r : St} (h : Run2 n p q) (k : Run2 n q r) : Run2 n p r := by
  refine ⟨k.rep, Nat.le_trans k.le h.le, fun hr => ?_, fun hr => ?_⟩
  · rcases k.up hr with h1 | h1
    · rcases h.up h1 with h2 | h2
      · exact .inl h2
      · exact .inr (Nat.lt_of_le_of_lt k.le h2)
    · exact .inr (Nat.lt_of_lt_of_le h1 h.le)
  · obtain ⟨a, b⟩ := k.still hr
    obtain ⟨c, d⟩ := h.still a
    exact ⟨c, b.trans d⟩
section
variable {P : Int} {A : List Int} {N S : List (List Int)} (g : GoodM P A N S)
include g
theorem GoodM.j1_rep {f : List Int} {part : Int} {s : Nat} {ρ : Nat → Nat} (r : RepP N.length ρ) (hs : s < N.length) : ∀ a, a ≤ A.length → RepP N.length (j1 N A f part s ρ a)
  | 0, _ => r
  | a + 1, ha => by
    have ih := GoodM.j1_rep r hs a (by omega) (f := f) (part := part)
    unfold j1
    split
    · exact ih.join hs (g.nx_lt hs (by omega)).2.2
    · exact ih
theorem GoodM.v1_rep {f : List Int} {part : Int} {L : List Nat} (hL : ∀ k, k < L.length → L.getD k 0 < N.length) : ∀ k, k ≤ L.length → RepP N.length (v1 N A f part L k)
  | 0, _ => rep_id _
  | k + 1, hk => g.j1_rep (GoodM.v1_rep hL k (by omega)) (hL k (by omega)) A.length (Nat.le_refl _)
theorem GoodM.j2_run {s t : Nat} {p : St} (r : RepP N.length p.1) (hs : s < N.length) (ht : t < N.length) : ∀ a, a ≤ A.length → Run2 N.length p (j2 N s t p a)
  | 0, _ => Run2.refl r
  | a + 1, ha => by
    have ih := GoodM.j2_run r hs ht a (by omega)
    have h1 := (g.nx_lt hs (show a < A.length by omega)).2.2
    have h2 := (g.nx_lt ht (show a < A.length by omega)).2.2
    refine ih.trans ⟨ih.rep.join h1 h2, ih.rep.join_le h1 h2, fun hq => ?_, fun hq => ?_⟩
    · by_cases he : (j2 N s t p a).1 (nx N s a) = (j2 N s t p a).1 (nx N t a)
      · refine .inl ?_
        have hq : (bif decide ((j2 N s t p a).1 (nx N s a) ≠ (j2 N s t p a).1 (nx N t a)) then true else (j2 N s t p a).2) = true := hq
        rw [decide_eq_false (by simpa using he)] at hq
        exact hq
      · exact .inr (ih.rep.join_lt h1 h2 he)
    · have hq : (bif decide ((j2 N s t p a).1 (nx N s a) ≠ (j2 N s t p a).1 (nx N t a)) then true else (j2 N s t p a).2) = false := hq
      by_cases he : (j2 N s t p a).1 (nx N s a) = (j2 N s t p a).1 (nx N t a)
      · rw [decide_eq_false (by simpa using he)] at hq
        exact ⟨hq, ih.rep.join_same h1 h2 he⟩
      · rw [decide_eq_true he] at hq
        cases hq
theorem GoodM.j2t_run {L : List Nat} (hL : ∀ k, k < L.length → L.getD k 0 < N.length) {s : Nat} {p : St} (r : RepP N.length p.1) (hs : s < N.length) : ∀ k, k ≤ L.length → Run2 N.length p (j2t N A L s p k)
  | 0, _ => Run2.refl r
  | k + 1, hk => by
    have ih := GoodM.j2t_run hL r hs k (by omega)
    unfold j2t
    split
    · exact ih.trans (g.j2_run ih.rep hs (hL k (by omega)) A.length (Nat.le_refl _))
    · exact ih
theorem GoodM.j2s_run {L : List Nat} (hL : ∀ k, k < L.length → L.getD k 0 < N.length) {p : St} (r : RepP N.length p.1) : ∀ k, k ≤ L.length → Run2 N.length p (j2s N A L p k)
  | 0, _ => Run2.refl r
  | k + 1, hk => by
    have ih := GoodM.j2s_run hL r k (by omega)
    exact ih.trans (g.j2t_run hL ih.rep (hL k (by omega)) L.length (Nat.le_refl _))
theorem GoodM.reach_lt : reachN N < 2 ^ N.length := by
  refine Nat.lt_pow_two_of_testBit _ fun i hi => ?_
  refine Bool.eq_false_iff.2 fun h => ?_
  have := (g.reach_bit (x := (i : Int)) (by omega)).1 (by simpa using h)
  have := g.reO_in (reEnd N) _ this
  omega
end
theorem j1_yes {N : List (List Int)} {A f : List Int} {part : Int} {s : Nat} {ρ : Nat → Nat} {a : Nat} (h : qaF A f part a = true) : joinR (j1 N A f part s ρ a) s (nx N s a) = j1 N A f part s ρ (a + 1) := by rw [j1, if_pos h]
theorem j1_no {N : List (List Int)} {A f : List Int} {part : Int} {s : Nat} {ρ : Nat → Nat} {a : Nat} (h : ¬qaF A f part a = true) : j1 N A f part s ρ a = j1 N A f part s ρ (a + 1) := by rw [j1, if_neg h]
theorem j2t_yes {N : List (List Int)} {A : List Int} {L : List Nat} {s : Nat} {p : St} {k : Nat} (h : s < L.getD k 0 ∧ (j2t N A L s p k).1 s = (j2t N A L s p k).1 (L.getD k 0)) : j2 N s (L.getD k 0) (j2t N A L s p k) A.length = j2t N A L s p (k + 1) := by rw [j2t, if_pos h]
theorem j2t_no {N : List (List Int)} {A : List Int} {L : List Nat} {s : Nat} {p : St} {k : Nat} (h : ¬(s < L.getD k 0 ∧ (j2t N A L s p k).1 s = (j2t N A L s p k).1 (L.getD k 0))) : j2t N A L s p k = j2t N A L s p (k + 1) := by rw [j2t, if_neg h]
/-- The numbers that are told, in the end. -/
def qV (ρ : Nat → Nat) (x : Nat) : Nat → List Int
  | 0 => []
  | i + 1 => if x.testBit i = true then qAdd .int ((ρ i : Nat) : Int) (qV ρ x i) else qV ρ x i
def numV (ρ : Nat → Nat) (x k : Nat) : Int := if x.testBit k = true then qIdx .int ((ρ k : Nat) : Int) (qV ρ x k) else -1
def outV (ρ : Nat → Nat) (x n i : Nat) : List Int := (List.range n).map fun k => if k < i then numV ρ x k else 0
theorem outV_len (ρ : Nat → Nat) (x n i : Nat) : (outV ρ x n i).length = n := by simp [outV]
theorem outV_zero (ρ : Nat → Nat) (x n : Nat) : List.replicate n (0 : Int) = outV ρ x n 0 := by
  unfold outV
  refine List.ext_getElem (by simp) fun k h1 h2 => by simp
theorem outV_set {ρ : Nat → Nat} {x n i : Nat} (h : i < n) {v : Int} (hv : v = numV ρ x i) : (outV ρ x n i).set i v = outV ρ x n (i + 1) := by
  subst hv
  unfold outV
  refine List.ext_getElem (by simp) fun k h1 h2 => ?_
  simp only [List.getElem_set, List.getElem_map, List.getElem_range]
  by_cases hk : i = k
  · subst hk; simp
  · rw [if_neg hk]
    by_cases h3 : k < i
    · rw [if_pos h3, if_pos (by omega)]
    · rw [if_neg h3, if_neg (by omega)]
theorem outV_set2 {ρ : Nat → Nat} {x n i : Nat} (h : i < n) {u v : Int} (hv : v = numV ρ x i) : ((outV ρ x n i).set i u).set i v = outV ρ x n (i + 1) := by
  rw [List.set_set]; exact outV_set h hv
theorem qV_len (ρ : Nat → Nat) (x : Nat) : ∀ i, (qV ρ x i).length ≤ i
  | 0 => by simp [qV]
  | i + 1 => by
    have := qV_len ρ x i
    unfold qV qAdd
    split
    · split
      · omega
      · rw [List.length_append]; simp; omega
    · omega
def viewsV (P : Int) (A : List Int) (N S : List (List Int)) (f : List Int) (part : Int) : List Int := if chkE P A N S f part = 0 then outV (vF N A f part) (reachN N) N.length N.length else []
theorem pair_cond {x y a b : Nat} : (bif decide ((x : Int) < (y : Int)) then decide ((a : Int) = (b : Int)) else false) = true ↔ x < y ∧ a = b := by
  simp only [Bool.cond_false_right, Bool.and_eq_true, decide_eq_true_eq]
  omega
theorem pair_not {x y a b : Nat} (h : (bif decide ((x : Int) < (y : Int)) then decide ((a : Int) = (b : Int)) else false) = false) : ¬(x < y ∧ a = b) := fun hh => by rw [pair_cond.2 hh] at h; cases h
theorem GoodM.round {P : Int} {A : List Int} {N S : List (List Int)} (g : GoodM P A N S) {L : List Nat} (hL : ∀ k, k < L.length → L.getD k 0 < N.length) {ρ F : Nat → Nat} (r : RepP N.length ρ) {m : Nat} (hr : repN ρ N.length < m) (hv : vW N A L m ρ = F) :
    RepP N.length (rnd N A L ρ).1 ∧ (((rnd N A L ρ).2 = true ∧ repN (rnd N A L ρ).1 N.length < m - 1 ∧ vW N A L (m - 1) (rnd N A L ρ).1 = F) ∨ ((rnd N A L ρ).2 = false ∧ (rnd N A L ρ).1 = F)) := by
  have R := g.j2s_run hL (p := (ρ, false)) r L.length (Nat.le_refl _)
  refine ⟨R.rep, ?_⟩
  cases m with
  | zero => omega
  | succ m =>
    rw [vW] at hv
    cases hb : (rnd N A L ρ).2 with
    | true =>
      rw [if_pos hb] at hv
      refine .inl ⟨rfl, ?_, hv⟩
      rcases R.up hb with h | h
      · cases h
      · have h : repN (rnd N A L ρ).1 N.length < repN ρ N.length := h
        omega
    | false =>
      rw [if_neg (by rw [hb]; decide)] at hv
      exact .inr ⟨rfl, hv⟩
theorem qV_yes {ρ : Nat → Nat} {x i : Nat} (h : x.testBit i = true) : qV ρ x (i + 1) = qAdd .int ((ρ i : Nat) : Int) (qV ρ x i) := by rw [qV, if_pos h]
theorem qV_no {ρ : Nat → Nat} {x i : Nat} (h : x.testBit i = false) : qV ρ x (i + 1) = qV ρ x i := by rw [qV, if_neg (by rw [h]; decide)]
theorem numV_yes {ρ : Nat → Nat} {x i : Nat} (h : x.testBit i = true) : qIdx .int ((ρ i : Nat) : Int) (qV ρ x i) = numV ρ x i := by rw [numV, if_pos h]
theorem numV_no {ρ : Nat → Nat} {x i : Nat} (h : x.testBit i = false) : (-1 : Int) = numV ρ x i := by rw [numV, if_neg (by rw [h]; decide)]

theorem ucheck_fn (P : Int) (A : List Int) (N S : List (List Int)) (f : List Int) (part : Int) : LiftsD Tryd.prog 50 [.agg [.i P, .sl .int A, .sl (.sl .int) N, .sl (.sl .int) S], .sl .int f, .i part] (.er 81 (chkE P A N S f part)) := by
  refine LiftsD.of_body 21 [.tmp 6] Tryd.func50 rfl Tryd.ntmps50 (by kernel_rfl) rfl rfl fun w0 X0 => ?_
  refine AWPD.seq fun K1 hK1 => ?_
  -- region 0
  refine AWPD.keep [0, 1, 2] rfl ?_
  refine AWPD.region tabOK rfl ?_
  refine hK1 _ _ ?_
  clear hK1
  refine AWPD.seq fun K2 hK2 => ?_
  refine AWPD.seq fun K3 hK3 => ?_
  -- region 1
  refine AWPD.keep [1, 2, 3] rfl ?_
  refine AWPD.region tabOK rfl ?_
  repeat refine And.intro (by first | exact fun h => h | exact fun _ => rfl | (intro h; rw [h]; rfl) | omega | (intros; (try dsimp only [Ty.T, Ty.size]); (try simp only [castL_self, Int.toNat_natCast, Int.toNat_zero, Int.toNat_one, true_and, List.length_append, List.length_set, List.length_drop, List.length_take, List.length_replicate, List.length_cons, List.length_nil, Nat.zero_add, Nat.mul_one]); omega) | decide | (intros; simp_all; done) | (intros; simp_all; omega)) ?_
  refine Exists.intro _ (Exists.intro _ (And.intro (StepD.call (policy_fn _ _ _ _ _) rfl rfl rfl) (And.intro rfl (And.intro trivial ?_))))
  refine hK3 _ _ ?_
  clear hK3
  refine AWPD.seq fun K4 hK4 => ?_
  -- region 2
  refine AWPD.keep [2, 3, 7] rfl ?_
  refine AWPD.region tabOK rfl ?_
  refine hK4 _ _ ?_
  clear hK4
  first | refine AWPD.condP rfl (fun h0 => ?_) (fun h0 => ?_) | refine AWPD.condN rfl (fun h0 => ?_) (fun h0 => ?_) | refine AWPD.condAP rfl (fun h0 => ?_) (fun h0 => ?_) | refine AWPD.condOP rfl (fun h0 => ?_) (fun h0 => ?_) | refine AWPD.condONN rfl (fun h0 => ?_) (fun h0 => ?_) | refine AWPD.condOPN rfl (fun h0 => ?_) (fun h0 => ?_) | refine AWPD.condA rfl (fun h0 => ?_) (fun h0 => ?_) | refine AWPD.condO rfl (fun h0 => ?_) (fun h0 => ?_) | refine AWPD.cond rfl (fun h0 => ?_) (fun h0 => ?_)
  · try dsimp only [Ty.T] at h0
    try simp only [castL_self] at h0
    try simp only [Int.toNat_natCast] at h0
    try simp only [Int.toNat_zero] at h0
    refine AWPD.seq fun K5 hK5 => ?_
    -- region 3
    refine AWPD.keep [7] rfl ?_
    refine AWPD.region tabOK rfl ?_
    refine hK5 _ _ ?_
    clear hK5
    refine AWPD.ret (And.intro (.inl rfl) ?_)
    -- result 0
    refine RetD.one ?_
    exact fitE rfl (by unfold chkE; rw [if_pos (by simpa using h0)])
  · try dsimp only [Ty.T] at h0
    try simp only [castL_self] at h0
    try simp only [Int.toNat_natCast] at h0
    try simp only [Int.toNat_zero] at h0
    have he : polE P A N S f = 0 := by simpa using h0
    have g := mach_good (pol_ok he).1
    have gp := g.parts
    refine AWPD.skip ?_
    refine hK2 _ _ ?_
    clear hK2
    refine AWPD.seq fun K6 hK6 => ?_
    refine AWPD.seq fun K7 hK7 => ?_
    -- region 4
    refine AWPD.keep [2, 3] rfl ?_
    refine AWPD.region tabOK rfl ?_
    repeat refine And.intro (by first | exact fun h => h | exact fun _ => rfl | (intro h; rw [h]; rfl) | omega | (intros; (try dsimp only [Ty.T, Ty.size]); (try simp only [castL_self, Int.toNat_natCast, Int.toNat_zero, Int.toNat_one, true_and, List.length_append, List.length_set, List.length_drop, List.length_take, List.length_replicate, List.length_cons, List.length_nil, Nat.zero_add, Nat.mul_one]); omega) | decide | (intros; simp_all; done) | (intros; simp_all; omega)) ?_
    refine Exists.intro _ (Exists.intro _ (And.intro (StepD.call (within_fn _ _ _) rfl rfl rfl) (And.intro rfl (And.intro trivial ?_))))
    refine hK7 _ _ ?_
    clear hK7
    first | refine AWPD.cond rfl (fun h1 => ?_) (fun h1 => ?_)
    · try dsimp only [Ty.T] at h1
      try simp only [castL_self] at h1
      try simp only [Int.toNat_natCast] at h1
      try simp only [Int.toNat_zero] at h1
      have h1 : ¬(0 ≤ part ∧ part ≤ P - 1) := by simp at h1; omega
      refine AWPD.seq fun K8 hK8 => ?_
      -- region 5
      refine AWPD.keep [] rfl ?_
      refine AWPD.region tabOK rfl ?_
      repeat refine And.intro (by first | exact fun h => h | exact fun _ => rfl | (intro h; rw [h]; rfl) | omega | (intros; (try dsimp only [Ty.T, Ty.size]); (try simp only [castL_self, Int.toNat_natCast, Int.toNat_zero, Int.toNat_one, true_and, List.length_append, List.length_set, List.length_drop, List.length_take, List.length_replicate, List.length_cons, List.length_nil, Nat.zero_add, Nat.mul_one]); omega) | decide | (intros; simp_all; done) | (intros; simp_all; omega)) ?_
      refine hK8 _ _ ?_
      clear hK8
      refine AWPD.ret (And.intro (.inl rfl) ?_)
      -- result 1
      refine RetD.one ?_
      exact fitE rfl (by unfold chkE; rw [if_neg (fun h => h he), if_neg h1])
    · try dsimp only [Ty.T] at h1
      try simp only [castL_self] at h1
      try simp only [Int.toNat_natCast] at h1
      try simp only [Int.toNat_zero] at h1
      have h1 : 0 ≤ part ∧ part ≤ P - 1 := by simpa using h1
      refine AWPD.skip ?_
      refine hK6 _ _ ?_
      clear hK6
      refine AWPD.seq fun K9 hK9 => ?_
      -- region 6
      refine AWPD.keep [] rfl ?_
      refine AWPD.region tabOK rfl ?_
      refine hK9 _ _ ?_
      clear hK9
      refine AWPD.ret (And.intro (.inl rfl) ?_)
      -- result 2
      refine RetD.one ?_
      exact fitE rfl (by unfold chkE; rw [if_neg (fun h => h he), if_pos h1])
theorem views_fn (P : Int) (A : List Int) (N S : List (List Int)) (f : List Int) (part : Int) : LiftsG Tryd.prog tabG 13 [.agg [.i P, .sl .int A, .sl (.sl .int) N, .sl (.sl .int) S], .sl .int f, .i part] (.tup [.sl .int (viewsV P A N S f part), .er 81 (chkE P A N S f part)]) := by
  refine LiftsG.of_body 146 [.tmp 6, .tmp 7] Tryd.func13 rfl Tryd.ntmps13 (by kernel_rfl) rfl rfl fun w0 X0 hG0 => ?_
  have hCR : CtxR tabG ⟨w0, X0, [], [], 146⟩ := CtxR.start tabG_stays rfl hG0
  refine AWPD.seq fun K1 hK1 => ?_
  -- region 0
  refine AWPD.keep [0, 1, 2] rfl ?_
  refine AWPD.region tabOK rfl ?_
  refine hK1 _ _ ?_
  clear hK1
  refine AWPD.seq fun K2 hK2 => ?_
  refine AWPD.seq fun K3 hK3 => ?_
  -- region 1
  refine AWPD.keep [3, 4, 5] rfl ?_
  refine AWPD.region tabOK rfl ?_
  repeat refine And.intro (by first | exact fun h => h | exact fun _ => rfl | (intro h; rw [h]; rfl) | omega | (intros; (try dsimp only [Ty.T, Ty.size]); (try simp only [castL_self, Int.toNat_natCast, Int.toNat_zero, Int.toNat_one, true_and, List.length_append, List.length_set, List.length_drop, List.length_take, List.length_replicate, List.length_cons, List.length_nil, Nat.zero_add, Nat.mul_one]); omega) | decide | (intros; simp_all; done) | (intros; simp_all; omega)) ?_
  refine Exists.intro _ (Exists.intro _ (And.intro (StepD.call (ucheck_fn _ _ _ _ _ _) rfl rfl rfl) (And.intro rfl (And.intro trivial ?_))))
  refine hK3 _ _ ?_
  clear hK3
  refine AWPD.seq fun K4 hK4 => ?_
  -- region 2
  refine AWPD.keep [3, 4, 5, 8] rfl ?_
  refine AWPD.region tabOK rfl ?_
  refine hK4 _ _ ?_
  clear hK4
  first | refine AWPD.condP rfl (fun h0 => ?_) (fun h0 => ?_) | refine AWPD.condN rfl (fun h0 => ?_) (fun h0 => ?_) | refine AWPD.condAP rfl (fun h0 => ?_) (fun h0 => ?_) | refine AWPD.condOP rfl (fun h0 => ?_) (fun h0 => ?_) | refine AWPD.condONN rfl (fun h0 => ?_) (fun h0 => ?_) | refine AWPD.condOPN rfl (fun h0 => ?_) (fun h0 => ?_) | refine AWPD.condA rfl (fun h0 => ?_) (fun h0 => ?_) | refine AWPD.condO rfl (fun h0 => ?_) (fun h0 => ?_) | refine AWPD.cond rfl (fun h0 => ?_) (fun h0 => ?_)
  · try dsimp only [Ty.T] at h0
    try simp only [castL_self] at h0
    try simp only [Int.toNat_natCast] at h0
    try simp only [Int.toNat_zero] at h0
    refine AWPD.seq fun K5 hK5 => ?_
    -- region 3
    refine AWPD.keep [8] rfl ?_
    refine AWPD.region tabOK rfl ?_
    refine hK5 _ _ ?_
    clear hK5
    refine AWPD.ret (And.intro (.inl rfl) ?_)
    -- result 0
    exact ⟨fitN rfl (by unfold viewsV; rw [if_neg h0]) (by decide), fitE rfl rfl⟩
  · try dsimp only [Ty.T] at h0
    try simp only [castL_self] at h0
    try simp only [Int.toNat_natCast] at h0
    try simp only [Int.toNat_zero] at h0
    have he : chkE P A N S f part = 0 := by simpa using h0
    obtain ⟨hpol, hp1, hp2⟩ := chk_ok he
    obtain ⟨hme, gf⟩ := pol_ok hpol
    have g := mach_good hme
    have hrv : reachV P A N S = ((reachN N : Nat) : Int) := by unfold reachV; rw [if_pos hme]
    have hri := g.reach_in
    have hrl := g.reach_lt
    have hN := g.few
    have hN0 := g.some
    have hA6 := g.acts6
    have hP := g.parts
    have hfl := gf.len
    have hrp : (List.replicate N.length (0 : Int)).length = N.length := List.length_replicate
    have hrp2 : (List.replicate (N.length : Int).toNat (0 : Int)).length = N.length := by simp
    have h63 : reachN N < 2 ^ 63 := by omega
    have hL : ∀ k, k < (bitsL (reachN N)).length → (bitsL (reachN N)).getD k 0 < N.length := fun k hk => bitsL_lt hrl hk
    refine AWPD.skip ?_
    refine hK2 _ _ ?_
    clear hK2
    refine AWPD.seq fun K6 hK6 => ?_
    -- region 4
    refine AWPD.keep [3, 4, 5] rfl ?_
    refine AWPD.region tabOK rfl ?_
    repeat refine And.intro (by first | exact fun h => h | exact fun _ => rfl | (intro h; rw [h]; rfl) | omega | (intros; (try dsimp only [Ty.T, Ty.size]); (try simp only [castL_self, Int.toNat_natCast, Int.toNat_zero, Int.toNat_one, true_and, List.length_append, List.length_set, List.length_drop, List.length_take, List.length_replicate, List.length_cons, List.length_nil, Nat.zero_add, Nat.mul_one]); omega) | decide | (intros; simp_all; done) | (intros; simp_all; omega)) ?_
    refine Exists.intro _ (Exists.intro _ (And.intro (StepD.call (reached_fn _ _ _ _) rfl rfl rfl) (And.intro rfl (And.intro trivial ?_))))
    repeat refine And.intro (by first | exact fun h => h | exact fun _ => rfl | (intro h; rw [h]; rfl) | omega | (intros; (try dsimp only [Ty.T, Ty.size]); (try simp only [castL_self, Int.toNat_natCast, Int.toNat_zero, Int.toNat_one, true_and, List.length_append, List.length_set, List.length_drop, List.length_take, List.length_replicate, List.length_cons, List.length_nil, Nat.zero_add, Nat.mul_one]); omega) | decide | (intros; simp_all; done) | (intros; simp_all; omega)) ?_
    refine hK6 _ _ ?_
    clear hK6
    refine AWPD.seq fun K7 hK7 => ?_
    refine AWPD.seq fun K8 hK8 => ?_
    -- region 5
    refine AWPD.keep [3, 4, 5, 9, 10] rfl ?_
    refine AWPD.region tabOK rfl ?_
    refine hK8 _ _ ?_
    clear hK8
    first | refine AWPD.condP rfl (fun h1 => ?_) (fun h1 => ?_) | refine AWPD.condN rfl (fun h1 => ?_) (fun h1 => ?_) | refine AWPD.condAP rfl (fun h1 => ?_) (fun h1 => ?_) | refine AWPD.condOP rfl (fun h1 => ?_) (fun h1 => ?_) | refine AWPD.condONN rfl (fun h1 => ?_) (fun h1 => ?_) | refine AWPD.condOPN rfl (fun h1 => ?_) (fun h1 => ?_) | refine AWPD.condA rfl (fun h1 => ?_) (fun h1 => ?_) | refine AWPD.condO rfl (fun h1 => ?_) (fun h1 => ?_) | refine AWPD.cond rfl (fun h1 => ?_) (fun h1 => ?_)
    · try dsimp only [Ty.T] at h1
      try simp only [castL_self] at h1
      try simp only [Int.toNat_natCast] at h1
      try simp only [Int.toNat_zero] at h1
      exact absurd hme h1
    · try dsimp only [Ty.T] at h1
      try simp only [castL_self] at h1
      try simp only [Int.toNat_natCast] at h1
      try simp only [Int.toNat_zero] at h1
      refine AWPD.skip ?_
      refine hK7 _ _ ?_
      clear hK7
      refine AWPD.seq fun K9 hK9 => ?_
      -- region 7
      refine AWPD.keep [3, 4, 5, 9] rfl ?_
      refine AWPD.region tabOK rfl ?_
      repeat refine And.intro (by first | exact fun h => h | exact fun _ => rfl | (intro h; rw [h]; rfl) | omega | (intros; (try dsimp only [Ty.T, Ty.size]); (try simp only [castL_self, Int.toNat_natCast, Int.toNat_zero, Int.toNat_one, true_and, List.length_append, List.length_set, List.length_drop, List.length_take, List.length_replicate, List.length_cons, List.length_nil, Nat.zero_add, Nat.mul_one]); omega) | decide | (intros; simp_all; done) | (intros; simp_all; omega)) ?_
      refine Exists.intro _ (Exists.intro _ (And.intro (StepD.callN (newGroups_fn (N.length : Int) (by omega)) rfl rfl (by first | exact rfl | exact row_free _ _ _)) (And.intro rfl (And.intro trivial ?_))))
      repeat refine And.intro (by first | exact fun h => h | exact fun _ => rfl | (intro h; rw [h]; rfl) | omega | (intros; (try dsimp only [Ty.T, Ty.size]); (try simp only [castL_self, Int.toNat_natCast, Int.toNat_zero, Int.toNat_one, true_and, List.length_append, List.length_set, List.length_drop, List.length_take, List.length_replicate, List.length_cons, List.length_nil, Nat.zero_add, Nat.mul_one]); omega) | decide | (intros; simp_all; done) | (intros; simp_all; omega)) ?_
      refine hK9 _ _ ?_
      clear hK9
      refine AWPD.seq fun K10 hK10 => ?_
      refine AWPD.seq fun K11 hK11 => ?_
      -- region 8
      rw [hrv]
      refine AWPD.exO 1 (grp_new N.length) rfl ?_
      refine AWPD.freezeR 9 hCR.2 rfl rfl ?_
      refine AWPD.freezeR 11 hCR.2 rfl rfl ?_
      refine AWPD.keep [3, 4, 5, 9, 11] rfl ?_
      refine AWPD.region tabOK rfl ?_
      repeat refine And.intro (by first | exact fun h => h | exact fun _ => rfl | (intro h; rw [h]; rfl) | omega | (intros; (try dsimp only [Ty.T, Ty.size]); (try simp only [castL_self, Int.toNat_natCast, Int.toNat_zero, Int.toNat_one, true_and, List.length_append, List.length_set, List.length_drop, List.length_take, List.length_replicate, List.length_cons, List.length_nil, Nat.zero_add, Nat.mul_one]); omega) | decide | (intros; simp_all; done) | (intros; simp_all; omega)) ?_
      refine Exists.intro _ (Exists.intro _ (And.intro (StepD.callN (bitsC_fn (reachN N)) rfl rfl (by first | exact rfl | exact row_free _ _ _)) (And.intro rfl (And.intro trivial ?_))))
      refine hK11 _ _ ?_
      clear hK11
      refine AWPD.block ?_
      -- RANGE 0 live [3, 4, 5, 9, 11, 42]
      refine AWPD.rangeF hCR (bits1_seq (reachN N) (h63)) bits1_enters rfl (σ := Nat) [3, 4, 5, 9] (fun base => (11, .bp [.ob 0] 0) :: (42, .ob 1) :: base) (fun s => [grpO N.length ((v1 N A f part (bitsL (reachN N)) s)), bitsO (reachN N)]) (fun k s => s = k) (0) [1, 3] 1 2 rfl rfl (rfl) (by decide) ⟨grp_same rfl, rfl, trivial⟩ (by repeat' first | exact True.intro | exact rfl | exact ⟨rfl, rfl⟩ | refine And.intro ?_ ?_) rfl (fun _ => rfl) (fun _ => rfl) (fun k0 s hk0 hI0 wr0 Xr0 Fr0 Vr0 hV0 hCR0 KA0 hKA0 => ?_) (fun s hI0 => ?_)
      · obtain ⟨x12_0, x13_1, rfl⟩ := lenV2 hV0
        clear hV0
        subst hI0
        have hi := hL s hk0
        -- region 9
        refine AWPD.keep [3, 4, 5, 11, 43] rfl ?_
        refine AWPD.region tabOK rfl ?_
        refine hKA0 _ _ ?_
        clear hKA0
        intro wb0 Xb0 Fb0 Vb0 hVb0 hCRb0
        obtain ⟨x14_0, x15_1, rfl⟩ := lenV2 hVb0
        clear hVb0
        refine AWPD.block ?_
        refine AWPD.seq fun K16 hK16 => ?_
        -- region 10
        refine AWPD.keep [3, 4, 5, 11, 12] rfl ?_
        refine AWPD.region tabOK rfl ?_
        repeat refine And.intro (by first | exact fun h => h | exact fun _ => rfl | (intro h; rw [h]; rfl) | omega | (intros; (try dsimp only [Ty.T, Ty.size]); (try simp only [castL_self, Int.toNat_natCast, Int.toNat_zero, Int.toNat_one, true_and, List.length_append, List.length_set, List.length_drop, List.length_take, List.length_replicate, List.length_cons, List.length_nil, Nat.zero_add, Nat.mul_one]); omega) | decide | (intros; simp_all; done) | (intros; simp_all; omega)) ?_
        refine hK16 _ _ ?_
        clear hK16
        refine AWPD.block ?_
        -- LOOP 0 live [3, 4, 5, 11, 12, 45, 46, 47] changed [47]
        refine AWPD.loopK (σ := Nat) [3, 4, 5, 12, 45, 46] (fun a base => (11, .bp [.ob 0] 0) :: (47, .i (a : Int)) :: base) (fun a => [grpO N.length (j1 N A f part ((bitsL (reachN N)).getD s 0) (v1 N A f part (bitsL (reachN N)) s) a), bitsO (reachN N)]) (fun n a => n + a = A.length) (A.length) 0 [0, 1] rfl rfl (by omega) (by decide) ⟨grp_same rfl, rfl, trivial⟩ (by repeat' first | exact True.intro | exact rfl | exact ⟨rfl, rfl⟩ | refine And.intro ?_ ?_) fun n0 a hI0 => ?_
        have hn0 := hI0
        refine AWPD.seq fun K17 hK17 => ?_
        -- region 11
        refine AWPD.keep [3, 4, 5, 11, 12, 45, 46, 47] rfl ?_
        refine AWPD.region tabOK rfl ?_
        refine hK17 _ _ ?_
        clear hK17
        refine AWPD.seq fun K18 hK18 => ?_
        first | refine AWPD.condP rfl (fun h2 => ?_) (fun h2 => ?_) | refine AWPD.condN rfl (fun h2 => ?_) (fun h2 => ?_) | refine AWPD.condAP rfl (fun h2 => ?_) (fun h2 => ?_) | refine AWPD.condOP rfl (fun h2 => ?_) (fun h2 => ?_) | refine AWPD.condONN rfl (fun h2 => ?_) (fun h2 => ?_) | refine AWPD.condOPN rfl (fun h2 => ?_) (fun h2 => ?_) | refine AWPD.condA rfl (fun h2 => ?_) (fun h2 => ?_) | refine AWPD.condO rfl (fun h2 => ?_) (fun h2 => ?_) | refine AWPD.cond rfl (fun h2 => ?_) (fun h2 => ?_)
        · try dsimp only [Ty.T] at h2
          try simp only [castL_self] at h2
          try simp only [Int.toNat_natCast] at h2
          try simp only [Int.toNat_zero] at h2
          have hal : a < A.length := by omega
          have hac := g.acts a hal
          have hxr := g.nx_lt hi hal
          have hmf := mask_le (gf.mask (A.getD a 0).toNat (by omega)) hP.2
          have hrow := g.rowN _ hi
          refine AWPD.skip ?_
          refine hK18 _ _ ?_
          clear hK18
          refine AWPD.seq fun K19 hK19 => ?_
          refine AWPD.block ?_
          refine AWPD.seq fun K20 hK20 => ?_
          -- region 12
          refine AWPD.keep [3, 4, 5, 11, 12, 45, 46, 47] rfl ?_
          refine AWPD.region tabOK rfl ?_
          repeat refine And.intro (by first | exact fun h => h | exact fun _ => rfl | (intro h; rw [h]; rfl) | omega | (intros; (try dsimp only [Ty.T, Ty.size]); (try simp only [castL_self, Int.toNat_natCast, Int.toNat_zero, Int.toNat_one, true_and, List.length_append, List.length_set, List.length_drop, List.length_take, List.length_replicate, List.length_cons, List.length_nil, Nat.zero_add, Nat.mul_one]); omega) | decide | (intros; simp_all; done) | (intros; simp_all; omega)) ?_
          refine hK20 _ _ ?_
          clear hK20
          refine AWPD.seq fun K21 hK21 => ?_
          -- region 13
          refine AWPD.keep [3, 4, 5, 11, 12, 13, 14, 45, 46, 47] rfl ?_
          refine AWPD.draw tabOK [] rfl (by kernel_rfl) ?_
          repeat refine And.intro (by first | exact fun h => h | exact fun _ => rfl | (intro h; rw [h]; rfl) | omega | (intros; (try dsimp only [Ty.T, Ty.size]); (try simp only [castL_self, Int.toNat_natCast, Int.toNat_zero, Int.toNat_one, true_and, List.length_append, List.length_set, List.length_drop, List.length_take, List.length_replicate, List.length_cons, List.length_nil, Nat.zero_add, Nat.mul_one]); omega) | decide | (intros; simp_all; done) | (intros; simp_all; omega)) ?_
          refine Exists.intro _ (Exists.intro _ (And.intro (StepD.call (has_fn (f.getD (A.getD a 0).toNat 0) part (by omega) (by omega)) rfl rfl rfl) (And.intro rfl (And.intro rfl ?_))))
          refine hK21 _ _ ?_
          clear hK21
          first | refine AWPD.cond rfl (fun h3 => ?_) (fun h3 => ?_)
          · try dsimp only [Ty.T] at h3
            try simp only [castL_self] at h3
            try simp only [Int.toNat_natCast] at h3
            try simp only [Int.toNat_zero] at h3
            have hq : qaF A f part a = true := h3
            -- region 14
            refine AWPD.keep [3, 4, 5, 11, 12, 13, 45, 46, 47] rfl ?_
            refine AWPD.draw tabOK [10] rfl (by kernel_rfl) ?_
            repeat refine And.intro (by first | exact fun h => h | exact fun _ => rfl | (intro h; rw [h]; rfl) | omega | (intros; (try dsimp only [Ty.T, Ty.size]); (try simp only [castL_self, Int.toNat_natCast, Int.toNat_zero, Int.toNat_one, true_and, List.length_append, List.length_set, List.length_drop, List.length_take, List.length_replicate, List.length_cons, List.length_nil, Nat.zero_add, Nat.mul_one]); omega) | decide | (intros; simp_all; done) | (intros; simp_all; omega)) ?_
            refine Exists.intro _ (Exists.intro _ (And.intro (StepD.callO (i := 0) (join_grp (((bitsL (reachN N)).getD s 0 : Nat) : Int) ((N.getD ((bitsL (reachN N)).getD s 0) []).getD a 0) (by omega) (by omega) (by omega)) rfl rfl rfl rfl (by first | exact rfl | exact row_free _ _ _) (by first | exact rfl | exact row_free _ _ _)) (And.intro rfl (And.intro trivial ?_))))
            refine hK19 _ _ ?_
            clear hK19
            -- region 15
            refine AWPD.keep [3, 4, 5, 11, 12, 45, 46, 47] rfl ?_
            refine AWPD.region tabOK rfl ?_
            repeat refine And.intro (by first | exact fun h => h | exact fun _ => rfl | (intro h; rw [h]; rfl) | omega | (intros; (try dsimp only [Ty.T, Ty.size]); (try simp only [castL_self, Int.toNat_natCast, Int.toNat_zero, Int.toNat_one, true_and, List.length_append, List.length_set, List.length_drop, List.length_take, List.length_replicate, List.length_cons, List.length_nil, Nat.zero_add, Nat.mul_one]); omega) | decide | (intros; simp_all; done) | (intros; simp_all; omega)) ?_
            refine ⟨n0 - 1, a + 1, [0, 1], by omega, by omega, ⟨by decide, rfl⟩, ⟨grp_same (j1_yes hq), rfl, trivial⟩, ?_⟩
            repeat' first | exact True.intro | exact rfl | exact ⟨rfl, rfl⟩ | refine And.intro ?_ ?_
          · try dsimp only [Ty.T] at h3
            try simp only [castL_self] at h3
            try simp only [Int.toNat_natCast] at h3
            try simp only [Int.toNat_zero] at h3
            have hq : ¬qaF A f part a = true := by rw [show qaF A f part a = false from h3]; decide
            refine AWPD.skip ?_
            refine hK19 _ _ ?_
            clear hK19
            -- region 15
            refine AWPD.keep [3, 4, 5, 11, 12, 45, 46, 47] rfl ?_
            refine AWPD.region tabOK rfl ?_
            repeat refine And.intro (by first | exact fun h => h | exact fun _ => rfl | (intro h; rw [h]; rfl) | omega | (intros; (try dsimp only [Ty.T, Ty.size]); (try simp only [castL_self, Int.toNat_natCast, Int.toNat_zero, Int.toNat_one, true_and, List.length_append, List.length_set, List.length_drop, List.length_take, List.length_replicate, List.length_cons, List.length_nil, Nat.zero_add, Nat.mul_one]); omega) | decide | (intros; simp_all; done) | (intros; simp_all; omega)) ?_
            refine ⟨n0 - 1, a + 1, [0, 1], by omega, by omega, ⟨by decide, rfl⟩, ⟨grp_same (j1_no hq), rfl, trivial⟩, ?_⟩
            repeat' first | exact True.intro | exact rfl | exact ⟨rfl, rfl⟩ | refine And.intro ?_ ?_
        · try dsimp only [Ty.T] at h2
          try simp only [castL_self] at h2
          try simp only [Int.toNat_natCast] at h2
          try simp only [Int.toNat_zero] at h2
          have hal : a = A.length := by omega
          subst hal
          refine AWPD.exit ?_
          refine ⟨s + 1, [0, 1], rfl, rfl, ⟨by decide, rfl⟩, ⟨grp_same rfl, rfl, trivial⟩⟩
      · have hdone0 := hI0
        subst hI0
        refine hK10 _ _ ?_
        clear hK10
        refine AWPD.seq fun K22 hK22 => ?_
        refine AWPD.seq fun K23 hK23 => ?_
        -- region 16
        refine AWPD.keep [3, 9, 11] rfl ?_
        refine AWPD.region tabOK rfl ?_
        repeat refine And.intro (by first | exact fun h => h | exact fun _ => rfl | (intro h; rw [h]; rfl) | omega | (intros; (try dsimp only [Ty.T, Ty.size]); (try simp only [castL_self, Int.toNat_natCast, Int.toNat_zero, Int.toNat_one, true_and, List.length_append, List.length_set, List.length_drop, List.length_take, List.length_replicate, List.length_cons, List.length_nil, Nat.zero_add, Nat.mul_one]); omega) | decide | (intros; simp_all; done) | (intros; simp_all; omega)) ?_
        refine hK23 _ _ ?_
        clear hK23
        refine AWPD.block ?_
        -- LOOP 1 live [3, 9, 11, 15] changed [15]
        refine AWPD.loopK (σ := St) [3, 9] (fun s base => (11, .bp [.ob 0] 0) :: (15, .op 1 0) :: base) (fun s => [grpO N.length (s.1), .box 4 [.b s.2]]) (fun n s => RepP N.length s.1 ∧ ((s.2 = true ∧ repN s.1 N.length < n ∧ vW N A (bitsL (reachN N)) n s.1 = vF N A f part) ∨ (s.2 = false ∧ s.1 = vF N A f part))) (N.length + 1) ((v1 N A f part (bitsL (reachN N)) (bitsL (reachN N)).length), true) [0, 2] rfl rfl (⟨g.v1_rep hL _ (Nat.le_refl _), .inl ⟨rfl, Nat.lt_succ_of_le (repN_le _ _), rfl⟩⟩) (by decide) ⟨grp_same rfl, ⟨rfl, rfl, rfl⟩, trivial⟩ (by repeat' first | exact True.intro | exact rfl | exact ⟨rfl, rfl⟩ | refine And.intro ?_ ?_) fun n1 s hI1 => ?_
        obtain ⟨hrep, hst⟩ := hI1
        refine AWPD.seq fun K24 hK24 => ?_
        refine AWPD.seq fun K25 hK25 => ?_
        -- region 17
        refine AWPD.keep [3, 9, 11, 15] rfl ?_
        refine AWPD.region tabOK rfl ?_
        repeat refine And.intro (by first | exact fun h => h | exact fun _ => rfl | (intro h; rw [h]; rfl) | omega | (intros; (try dsimp only [Ty.T, Ty.size]); (try simp only [castL_self, Int.toNat_natCast, Int.toNat_zero, Int.toNat_one, true_and, List.length_append, List.length_set, List.length_drop, List.length_take, List.length_replicate, List.length_cons, List.length_nil, Nat.zero_add, Nat.mul_one]); omega) | decide | (intros; simp_all; done) | (intros; simp_all; omega)) ?_
        refine hK25 _ _ ?_
        clear hK25
        first | refine AWPD.cond rfl (fun h4 => ?_) (fun h4 => ?_)
        · try dsimp only [Ty.T] at h4
          try simp only [castL_self] at h4
          try simp only [Int.toNat_natCast] at h4
          try simp only [Int.toNat_zero] at h4
          have hs3 : repN s.1 N.length < n1 ∧ vW N A (bitsL (reachN N)) n1 s.1 = vF N A f part := by
            rcases hst with h | h
            · exact h.2
            · rw [h.1] at h4; cases h4
          refine AWPD.skip ?_
          refine hK24 _ _ ?_
          clear hK24
          refine AWPD.seq fun K26 hK26 => ?_
          refine AWPD.block ?_
          refine AWPD.seq fun K27 hK27 => ?_
          -- region 18
          refine AWPD.keep [3, 9, 11, 15] rfl ?_
          refine AWPD.region tabOK rfl ?_
          repeat refine And.intro (by first | exact fun h => h | exact fun _ => rfl | (intro h; rw [h]; rfl) | omega | (intros; (try dsimp only [Ty.T, Ty.size]); (try simp only [castL_self, Int.toNat_natCast, Int.toNat_zero, Int.toNat_one, true_and, List.length_append, List.length_set, List.length_drop, List.length_take, List.length_replicate, List.length_cons, List.length_nil, Nat.zero_add, Nat.mul_one]); omega) | decide | (intros; simp_all; done) | (intros; simp_all; omega)) ?_
          refine hK27 _ _ ?_
          clear hK27
          refine AWPD.seq fun K28 hK28 => ?_
          -- region 19
          refine AWPD.keep [3, 9, 11, 15] rfl ?_
          refine AWPD.region tabOK rfl ?_
          repeat refine And.intro (by first | exact fun h => h | exact fun _ => rfl | (intro h; rw [h]; rfl) | omega | (intros; (try dsimp only [Ty.T, Ty.size]); (try simp only [castL_self, Int.toNat_natCast, Int.toNat_zero, Int.toNat_one, true_and, List.length_append, List.length_set, List.length_drop, List.length_take, List.length_replicate, List.length_cons, List.length_nil, Nat.zero_add, Nat.mul_one]); omega) | decide | (intros; simp_all; done) | (intros; simp_all; omega)) ?_
          refine Exists.intro _ (Exists.intro _ (And.intro (StepD.callN (bitsC_fn (reachN N)) rfl rfl (by first | exact rfl | exact row_free _ _ _)) (And.intro rfl (And.intro trivial ?_))))
          refine hK28 _ _ ?_
          clear hK28
          refine AWPD.block ?_
          -- RANGE 1 live [3, 9, 11, 15, 73]
          refine AWPD.rangeF hCR (bits1_seq (reachN N) (h63)) bits1_enters rfl (σ := Nat) [3, 9] (fun base => (11, .bp [.ob 0] 0) :: (15, .op 1 0) :: (73, .ob 2) :: base) (fun u => [grpO N.length ((j2s N A (bitsL (reachN N)) (s.1, false) u).1), .box 4 [.b (j2s N A (bitsL (reachN N)) (s.1, false) u).2], bitsO (reachN N)]) (fun k u => u = k) (0) [0, 1, 2] 2 3 rfl rfl (rfl) (by decide) ⟨grp_same rfl, ⟨rfl, rfl, rfl⟩, rfl, trivial⟩ (by repeat' first | exact True.intro | exact rfl | exact ⟨rfl, rfl⟩ | refine And.intro ?_ ?_) rfl (fun _ => rfl) (fun _ => rfl) (fun k1 u hk1 hI1 wr1 Xr1 Fr1 Vr1 hV1 hCR1 KA1 hKA1 => ?_) (fun u hI1 => ?_)
          · obtain ⟨x29_0, x30_1, x31_2, rfl⟩ := lenV3 hV1
            clear hV1
            subst hI1
            have hi1 := hL u hk1
            have hrun := g.j2s_run hL (p := (s.1, false)) hrep u (Nat.le_of_lt hk1)
            -- region 20
            refine AWPD.keep [3, 9, 11, 15, 74] rfl ?_
            refine AWPD.region tabOK rfl ?_
            repeat refine And.intro (by first | exact fun h => h | exact fun _ => rfl | (intro h; rw [h]; rfl) | omega | (intros; (try dsimp only [Ty.T, Ty.size]); (try simp only [castL_self, Int.toNat_natCast, Int.toNat_zero, Int.toNat_one, true_and, List.length_append, List.length_set, List.length_drop, List.length_take, List.length_replicate, List.length_cons, List.length_nil, Nat.zero_add, Nat.mul_one]); omega) | decide | (intros; simp_all; done) | (intros; simp_all; omega)) ?_
            refine hKA1 _ _ ?_
            clear hKA1
            intro wb1 Xb1 Fb1 Vb1 hVb1 hCRb1
            obtain ⟨x32_0, x33_1, x34_2, x35_3, rfl⟩ := lenV4 hVb1
            clear hVb1
            refine AWPD.block ?_
            refine AWPD.seq fun K36 hK36 => ?_
            -- region 21
            refine AWPD.keep [3, 9, 11, 15, 16] rfl ?_
            refine AWPD.region tabOK rfl ?_
            repeat refine And.intro (by first | exact fun h => h | exact fun _ => rfl | (intro h; rw [h]; rfl) | omega | (intros; (try dsimp only [Ty.T, Ty.size]); (try simp only [castL_self, Int.toNat_natCast, Int.toNat_zero, Int.toNat_one, true_and, List.length_append, List.length_set, List.length_drop, List.length_take, List.length_replicate, List.length_cons, List.length_nil, Nat.zero_add, Nat.mul_one]); omega) | decide | (intros; simp_all; done) | (intros; simp_all; omega)) ?_
            refine Exists.intro _ (Exists.intro _ (And.intro (StepD.callN (bitsC_fn (reachN N)) rfl rfl (by first | exact rfl | exact row_free _ _ _)) (And.intro rfl (And.intro trivial ?_))))
            refine hK36 _ _ ?_
            clear hK36
            refine AWPD.block ?_
            -- RANGE 2 live [3, 11, 15, 16, 76]
            refine AWPD.rangeF hCRb1 (bits1_seq (reachN N) (h63)) bits1_enters rfl (σ := Nat) [3] (fun base => (11, .bp [.ob 0] 0) :: (15, .op 1 0) :: (16, .op 3 0) :: (76, .ob 4) :: base) (fun v => [grpO N.length ((j2t N A (bitsL (reachN N)) ((bitsL (reachN N)).getD u 0) (j2s N A (bitsL (reachN N)) (s.1, false) u) v).1), .box 4 [.b (j2t N A (bitsL (reachN N)) ((bitsL (reachN N)).getD u 0) (j2s N A (bitsL (reachN N)) (s.1, false) u) v).2], bitsO (reachN N), .box 3 [.i (((bitsL (reachN N)).getD u 0 : Nat) : Int)], bitsO (reachN N)]) (fun k v => v = k) (0) [0, 1, 2, 3, 4] 4 5 rfl rfl (rfl) (by decide) ⟨grp_same rfl, ⟨rfl, rfl, rfl⟩, rfl, ⟨rfl, rfl, rfl⟩, rfl, trivial⟩ (by repeat' first | exact True.intro | exact rfl | exact ⟨rfl, rfl⟩ | refine And.intro ?_ ?_) rfl (fun _ => rfl) (fun _ => rfl) (fun k2 v hk2 hI2 wr2 Xr2 Fr2 Vr2 hV2 hCR2 KA2 hKA2 => ?_) (fun v hI2 => ?_)
            · obtain ⟨x37_0, x38_1, x39_2, x40_3, x41_4, rfl⟩ := lenV5 hV2
              clear hV2
              subst hI2
              have hj := hL v hk2
              have hrun2 := g.j2t_run hL hrun.rep hi1 v (Nat.le_of_lt hk2)
              -- region 22
              refine AWPD.keep [3, 11, 15, 16, 77] rfl ?_
              refine AWPD.region tabOK rfl ?_
              refine hKA2 _ _ ?_
              clear hKA2
              intro wb2 Xb2 Fb2 Vb2 hVb2 hCRb2
              obtain ⟨x42_0, x43_1, x44_2, x45_3, x46_4, rfl⟩ := lenV5 hVb2
              clear hVb2
              refine AWPD.block ?_
              refine AWPD.seq fun K47 hK47 => ?_
              -- region 23
              refine AWPD.keep [3, 11, 15, 16, 17] rfl ?_
              refine AWPD.draw tabOK [] rfl (by kernel_rfl) ?_
              repeat refine And.intro (by first | exact fun h => h | exact fun _ => rfl | (intro h; rw [h]; rfl) | omega | (intros; (try dsimp only [Ty.T, Ty.size]); (try simp only [castL_self, Int.toNat_natCast, Int.toNat_zero, Int.toNat_one, true_and, List.length_append, List.length_set, List.length_drop, List.length_take, List.length_replicate, List.length_cons, List.length_nil, Nat.zero_add, Nat.mul_one]); omega) | decide | (intros; simp_all; done) | (intros; simp_all; omega)) ?_
              refine Exists.intro _ (Exists.intro _ (And.intro (fun hg => StepD.callO (i := 0) (find_grp (((bitsL (reachN N)).getD u 0 : Nat) : Int) (by omega) (by omega)) rfl rfl rfl rfl (by first | exact rfl | exact row_free _ _ _) (by first | exact rfl | exact row_free _ _ _)) (And.intro (fun hf => rfl) (And.intro rfl (And.intro rfl ?_)))))
              repeat refine And.intro (by first | exact fun h => h | exact fun _ => rfl | (intro h; rw [h]; rfl) | omega | (intros; (try dsimp only [Ty.T, Ty.size]); (try simp only [castL_self, Int.toNat_natCast, Int.toNat_zero, Int.toNat_one, true_and, List.length_append, List.length_set, List.length_drop, List.length_take, List.length_replicate, List.length_cons, List.length_nil, Nat.zero_add, Nat.mul_one]); omega) | decide | (intros; simp_all; done) | (intros; simp_all; omega)) ?_
              refine Exists.intro _ (Exists.intro _ (And.intro (fun hg => StepD.callO (i := 0) (find_grp (((bitsL (reachN N)).getD v 0 : Nat) : Int) (by omega) (by omega)) rfl rfl rfl rfl (by first | exact rfl | exact row_free _ _ _) (by first | exact rfl | exact row_free _ _ _)) (And.intro (fun hf => rfl) (And.intro rfl (And.intro rfl ?_)))))
              repeat refine And.intro (by first | exact fun h => h | exact fun _ => rfl | (intro h; rw [h]; rfl) | omega | (intros; (try dsimp only [Ty.T, Ty.size]); (try simp only [castL_self, Int.toNat_natCast, Int.toNat_zero, Int.toNat_one, true_and, List.length_append, List.length_set, List.length_drop, List.length_take, List.length_replicate, List.length_cons, List.length_nil, Nat.zero_add, Nat.mul_one]); omega) | decide | (intros; simp_all; done) | (intros; simp_all; omega)) ?_
              refine hK47 _ _ ?_
              clear hK47
              first | refine AWPD.cond rfl (fun h5 => ?_) (fun h5 => ?_)
              · try dsimp only [Ty.T] at h5
                try simp only [castL_self] at h5
                try simp only [Int.toNat_natCast] at h5
                try simp only [Int.toNat_zero] at h5
                have hc := pair_cond.1 h5
                refine AWPD.seq fun K48 hK48 => ?_
                -- region 24
                refine AWPD.keep [3, 11, 15, 16, 17] rfl ?_
                refine AWPD.region tabOK rfl ?_
                repeat refine And.intro (by first | exact fun h => h | exact fun _ => rfl | (intro h; rw [h]; rfl) | omega | (intros; (try dsimp only [Ty.T, Ty.size]); (try simp only [castL_self, Int.toNat_natCast, Int.toNat_zero, Int.toNat_one, true_and, List.length_append, List.length_set, List.length_drop, List.length_take, List.length_replicate, List.length_cons, List.length_nil, Nat.zero_add, Nat.mul_one]); omega) | decide | (intros; simp_all; done) | (intros; simp_all; omega)) ?_
                refine hK48 _ _ ?_
                clear hK48
                refine AWPD.block ?_
                -- LOOP 2 live [3, 11, 15, 16, 17, 92, 93] changed [93]
                refine AWPD.loopK (σ := Nat) [3, 17, 92] (fun a base => (11, .bp [.ob 0] 0) :: (15, .op 1 0) :: (16, .op 3 0) :: (93, .i (a : Int)) :: base) (fun a => [grpO N.length ((j2 N ((bitsL (reachN N)).getD u 0) ((bitsL (reachN N)).getD v 0) (j2t N A (bitsL (reachN N)) ((bitsL (reachN N)).getD u 0) (j2s N A (bitsL (reachN N)) (s.1, false) u) v) a).1), .box 4 [.b (j2 N ((bitsL (reachN N)).getD u 0) ((bitsL (reachN N)).getD v 0) (j2t N A (bitsL (reachN N)) ((bitsL (reachN N)).getD u 0) (j2s N A (bitsL (reachN N)) (s.1, false) u) v) a).2], bitsO (reachN N), .box 3 [.i (((bitsL (reachN N)).getD u 0 : Nat) : Int)], bitsO (reachN N)]) (fun n a => n + a = A.length) (A.length) 0 [0, 1, 2, 3, 4] rfl rfl (by omega) (by decide) ⟨grp_same rfl, ⟨rfl, rfl, rfl⟩, rfl, ⟨rfl, rfl, rfl⟩, rfl, trivial⟩ (by repeat' first | exact True.intro | exact rfl | exact ⟨rfl, rfl⟩ | refine And.intro ?_ ?_) fun n2 a hI2 => ?_
                have hn2 := hI2
                refine AWPD.seq fun K49 hK49 => ?_
                -- region 25
                refine AWPD.keep [3, 11, 15, 16, 17, 92, 93] rfl ?_
                refine AWPD.region tabOK rfl ?_
                refine hK49 _ _ ?_
                clear hK49
                refine AWPD.seq fun K50 hK50 => ?_
                first | refine AWPD.condP rfl (fun h6 => ?_) (fun h6 => ?_) | refine AWPD.condN rfl (fun h6 => ?_) (fun h6 => ?_) | refine AWPD.condAP rfl (fun h6 => ?_) (fun h6 => ?_) | refine AWPD.condOP rfl (fun h6 => ?_) (fun h6 => ?_) | refine AWPD.condONN rfl (fun h6 => ?_) (fun h6 => ?_) | refine AWPD.condOPN rfl (fun h6 => ?_) (fun h6 => ?_) | refine AWPD.condA rfl (fun h6 => ?_) (fun h6 => ?_) | refine AWPD.condO rfl (fun h6 => ?_) (fun h6 => ?_) | refine AWPD.cond rfl (fun h6 => ?_) (fun h6 => ?_)
                · try dsimp only [Ty.T] at h6
                  try simp only [castL_self] at h6
                  try simp only [Int.toNat_natCast] at h6
                  try simp only [Int.toNat_zero] at h6
                  have hal : a < A.length := by omega
                  have hx1 := g.nx_lt hi1 hal
                  have hx2 := g.nx_lt hj hal
                  have hrow1 := g.rowN _ hi1
                  have hrow2 := g.rowN _ hj
                  refine AWPD.skip ?_
                  refine hK50 _ _ ?_
                  clear hK50
                  refine AWPD.seq fun K51 hK51 => ?_
                  refine AWPD.block ?_
                  refine AWPD.seq fun K52 hK52 => ?_
                  -- region 26
                  refine AWPD.keep [3, 11, 15, 16, 17, 92, 93] rfl ?_
                  refine AWPD.region tabOK rfl ?_
                  refine hK52 _ _ ?_
                  clear hK52
                  -- region 27
                  refine AWPD.keep [3, 11, 15, 16, 17, 18, 92, 93] rfl ?_
                  refine AWPD.draw tabOK [17, 21] rfl (by kernel_rfl) ?_
                  repeat refine And.intro (by first | exact fun h => h | exact fun _ => rfl | (intro h; rw [h]; rfl) | omega | (intros; (try dsimp only [Ty.T, Ty.size]); (try simp only [castL_self, Int.toNat_natCast, Int.toNat_zero, Int.toNat_one, true_and, List.length_append, List.length_set, List.length_drop, List.length_take, List.length_replicate, List.length_cons, List.length_nil, Nat.zero_add, Nat.mul_one]); omega) | decide | (intros; simp_all; done) | (intros; simp_all; omega)) ?_
                  refine Exists.intro _ (Exists.intro _ (And.intro (StepD.callO (i := 0) (join_grp ((N.getD ((bitsL (reachN N)).getD u 0) []).getD a 0) ((N.getD ((bitsL (reachN N)).getD v 0) []).getD a 0) (by omega) (by omega) (by omega)) rfl rfl rfl rfl (by first | exact rfl | exact row_free _ _ _) (by first | exact rfl | exact row_free _ _ _)) (And.intro rfl (And.intro trivial ?_))))
                  repeat refine And.intro (by first | exact fun h => h | exact fun _ => rfl | (intro h; rw [h]; rfl) | omega | (intros; (try dsimp only [Ty.T, Ty.size]); (try simp only [castL_self, Int.toNat_natCast, Int.toNat_zero, Int.toNat_one, true_and, List.length_append, List.length_set, List.length_drop, List.length_take, List.length_replicate, List.length_cons, List.length_nil, Nat.zero_add, Nat.mul_one]); omega) | decide | (intros; simp_all; done) | (intros; simp_all; omega)) ?_
                  refine hK51 _ _ ?_
                  clear hK51
                  -- region 28
                  refine AWPD.keep [3, 11, 15, 16, 17, 92, 93] rfl ?_
                  refine AWPD.region tabOK rfl ?_
                  repeat refine And.intro (by first | exact fun h => h | exact fun _ => rfl | (intro h; rw [h]; rfl) | omega | (intros; (try dsimp only [Ty.T, Ty.size]); (try simp only [castL_self, Int.toNat_natCast, Int.toNat_zero, Int.toNat_one, true_and, List.length_append, List.length_set, List.length_drop, List.length_take, List.length_replicate, List.length_cons, List.length_nil, Nat.zero_add, Nat.mul_one]); omega) | decide | (intros; simp_all; done) | (intros; simp_all; omega)) ?_
                  refine ⟨n2 - 1, a + 1, [0, 1, 2, 3, 4], by omega, by omega, ⟨by decide, rfl⟩, ⟨grp_same rfl, ⟨rfl, rfl, rfl⟩, rfl, ⟨rfl, rfl, rfl⟩, rfl, trivial⟩, ?_⟩
                  repeat' first | exact True.intro | exact rfl | exact ⟨rfl, rfl⟩ | refine And.intro ?_ ?_
                · try dsimp only [Ty.T] at h6
                  try simp only [castL_self] at h6
                  try simp only [Int.toNat_natCast] at h6
                  try simp only [Int.toNat_zero] at h6
                  have hal : a = A.length := by omega
                  subst hal
                  refine AWPD.exit ?_
                  refine ⟨v + 1, [0, 1, 2, 3, 4], rfl, rfl, ⟨by decide, rfl⟩, ⟨grp_same (congrArg Prod.fst (j2t_yes hc)), ⟨rfl, congrArg (fun z : St => [DV.b z.2]) (j2t_yes hc), rfl⟩, rfl, ⟨rfl, rfl, rfl⟩, rfl, trivial⟩⟩
              · try dsimp only [Ty.T] at h5
                try simp only [castL_self] at h5
                try simp only [Int.toNat_natCast] at h5
                try simp only [Int.toNat_zero] at h5
                have hc := pair_not h5
                refine AWPD.skip ?_
                refine ⟨v + 1, [0, 1, 2, 3, 4], rfl, rfl, ⟨by decide, rfl⟩, ⟨grp_same (congrArg Prod.fst (j2t_no hc)), ⟨rfl, congrArg (fun z : St => [DV.b z.2]) (j2t_no hc), rfl⟩, rfl, ⟨rfl, rfl, rfl⟩, rfl, trivial⟩⟩
            · have hdone2 := hI2
              subst hI2
              refine ⟨u + 1, [0, 1, 2], rfl, rfl, ⟨by decide, rfl⟩, ⟨grp_same rfl, ⟨rfl, rfl, rfl⟩, rfl, trivial⟩⟩
          · have hdone1 := hI1
            subst hI1
            refine hK26 _ _ ?_
            clear hK26
            refine AWPD.seq fun K53 hK53 => ?_
            -- region 29
            refine AWPD.keep [3, 9, 11, 15] rfl ?_
            refine AWPD.region tabOK rfl ?_
            repeat refine And.intro (by first | exact fun h => h | exact fun _ => rfl | (intro h; rw [h]; rfl) | omega | (intros; (try dsimp only [Ty.T, Ty.size]); (try simp only [castL_self, Int.toNat_natCast, Int.toNat_zero, Int.toNat_one, true_and, List.length_append, List.length_set, List.length_drop, List.length_take, List.length_replicate, List.length_cons, List.length_nil, Nat.zero_add, Nat.mul_one]); omega) | decide | (intros; simp_all; done) | (intros; simp_all; omega)) ?_
            refine hK53 _ _ ?_
            clear hK53
            -- region 30
            refine AWPD.keep [3, 9, 11, 118] rfl ?_
            refine AWPD.region tabOK rfl ?_
            repeat refine And.intro (by first | exact fun h => h | exact fun _ => rfl | (intro h; rw [h]; rfl) | omega | (intros; (try dsimp only [Ty.T, Ty.size]); (try simp only [castL_self, Int.toNat_natCast, Int.toNat_zero, Int.toNat_one, true_and, List.length_append, List.length_set, List.length_drop, List.length_take, List.length_replicate, List.length_cons, List.length_nil, Nat.zero_add, Nat.mul_one]); omega) | decide | (intros; simp_all; done) | (intros; simp_all; omega)) ?_
            refine ⟨n1 - 1, rnd N A (bitsL (reachN N)) s.1, [0, 3], by omega, g.round hL hrep hs3.1 hs3.2, ⟨by decide, rfl⟩, ⟨grp_same rfl, ⟨rfl, rfl, rfl⟩, trivial⟩, ?_⟩
            repeat' first | exact True.intro | exact rfl | exact ⟨rfl, rfl⟩ | refine And.intro ?_ ?_
        · try dsimp only [Ty.T] at h4
          try simp only [castL_self] at h4
          try simp only [Int.toNat_natCast] at h4
          try simp only [Int.toNat_zero] at h4
          have hfin : s.1 = vF N A f part := by
            rcases hst with h | h
            · rw [h.1] at h4; cases h4
            · exact h.2
          refine AWPD.exit ?_
          refine hK22 _ _ ?_
          clear hK22
          refine AWPD.seq fun K54 hK54 => ?_
          -- region 31
          refine AWPD.keep [3, 9, 11] rfl ?_
          refine AWPD.region tabOK rfl ?_
          refine hK54 _ _ ?_
          clear hK54
          refine AWPD.seq fun K55 hK55 => ?_
          -- region 32
          refine AWPD.keep [3, 9, 11, 19] rfl ?_
          refine AWPD.region tabOK rfl ?_
          repeat refine And.intro (by first | exact fun h => h | exact fun _ => rfl | (intro h; rw [h]; rfl) | omega | (intros; (try dsimp only [Ty.T, Ty.size]); (try simp only [castL_self, Int.toNat_natCast, Int.toNat_zero, Int.toNat_one, true_and, List.length_append, List.length_set, List.length_drop, List.length_take, List.length_replicate, List.length_cons, List.length_nil, Nat.zero_add, Nat.mul_one]); omega) | decide | (intros; simp_all; done) | (intros; simp_all; omega)) ?_
          refine hK55 _ _ ?_
          clear hK55
          refine AWPD.seq fun K56 hK56 => ?_
          refine AWPD.seq fun K57 hK57 => ?_
          -- region 33
          refine AWPD.keep [9, 11, 19, 20] rfl ?_
          refine AWPD.region tabOK rfl ?_
          refine hK57 _ _ ?_
          clear hK57
          refine AWPD.block ?_
          -- LOOP 3 live [9, 11, 19, 20, 124, 125] changed [125]
          refine AWPD.newQ 2 3 .int rfl ?_
          refine AWPD.loopK (σ := Nat) [9, 124] (fun i base => (11, .bp [.ob 0] 0) :: (19, .op 1 0) :: (20, .ob 2) :: (125, .i (i : Int)) :: base) (fun i => [grpO N.length (vF N A f part), .que 76 3 .int (qV (vF N A f part) (reachN N) i), .row 3 .int (outV (vF N A f part) (reachN N) N.length i)]) (fun n i => n + i = N.length) (N.length) 0 [0, 2, 3] rfl rfl (by omega) (by decide) ⟨grp_same hfin, rfl, ⟨rfl, rfl, outV_zero _ _ _⟩, trivial⟩ (by repeat' first | exact True.intro | exact rfl | exact ⟨rfl, rfl⟩ | refine And.intro ?_ ?_) fun n3 i hI3 => ?_
          have hn3 := hI3
          have hql := qV_len (vF N A f part) (reachN N) i
          have hol := outV_len (vF N A f part) (reachN N) N.length i
          refine AWPD.seq fun K58 hK58 => ?_
          -- region 34
          refine AWPD.keep [9, 11, 19, 20, 124, 125] rfl ?_
          refine AWPD.region tabOK rfl ?_
          refine hK58 _ _ ?_
          clear hK58
          refine AWPD.seq fun K59 hK59 => ?_
          first | refine AWPD.condP rfl (fun h7 => ?_) (fun h7 => ?_) | refine AWPD.condN rfl (fun h7 => ?_) (fun h7 => ?_) | refine AWPD.condAP rfl (fun h7 => ?_) (fun h7 => ?_) | refine AWPD.condOP rfl (fun h7 => ?_) (fun h7 => ?_) | refine AWPD.condONN rfl (fun h7 => ?_) (fun h7 => ?_) | refine AWPD.condOPN rfl (fun h7 => ?_) (fun h7 => ?_) | refine AWPD.condA rfl (fun h7 => ?_) (fun h7 => ?_) | refine AWPD.condO rfl (fun h7 => ?_) (fun h7 => ?_) | refine AWPD.cond rfl (fun h7 => ?_) (fun h7 => ?_)
          · try dsimp only [Ty.T] at h7
            try simp only [castL_self] at h7
            try simp only [Int.toNat_natCast] at h7
            try simp only [Int.toNat_zero] at h7
            have hil : i < N.length := by omega
            refine AWPD.skip ?_
            refine hK59 _ _ ?_
            clear hK59
            refine AWPD.seq fun K60 hK60 => ?_
            refine AWPD.block ?_
            refine AWPD.seq fun K61 hK61 => ?_
            -- region 35
            refine AWPD.keep [9, 11, 19, 20, 124, 125] rfl ?_
            refine AWPD.region tabOK rfl ?_
            refine hK61 _ _ ?_
            clear hK61
            refine AWPD.seq fun K62 hK62 => ?_
            -- region 36
            refine AWPD.keep [9, 11, 19, 20, 21, 124, 125] rfl ?_
            refine AWPD.region tabOK rfl ?_
            repeat refine And.intro (by first | exact fun h => h | exact fun _ => rfl | (intro h; rw [h]; rfl) | omega | (intros; (try dsimp only [Ty.T, Ty.size]); (try simp only [castL_self, Int.toNat_natCast, Int.toNat_zero, Int.toNat_one, true_and, List.length_append, List.length_set, List.length_drop, List.length_take, List.length_replicate, List.length_cons, List.length_nil, Nat.zero_add, Nat.mul_one]); omega) | decide | (intros; simp_all; done) | (intros; simp_all; omega)) ?_
            refine hK62 _ _ ?_
            clear hK62
            refine AWPD.seq fun K63 hK63 => ?_
            -- region 37
            refine AWPD.keep [9, 11, 19, 20, 21, 124, 125] rfl ?_
            refine AWPD.region tabOK rfl ?_
            repeat refine And.intro (by first | exact fun h => h | exact fun _ => rfl | (intro h; rw [h]; rfl) | omega | (intros; (try dsimp only [Ty.T, Ty.size]); (try simp only [castL_self, Int.toNat_natCast, Int.toNat_zero, Int.toNat_one, true_and, List.length_append, List.length_set, List.length_drop, List.length_take, List.length_replicate, List.length_cons, List.length_nil, Nat.zero_add, Nat.mul_one]); omega) | decide | (intros; simp_all; done) | (intros; simp_all; omega)) ?_
            refine Exists.intro _ (Exists.intro _ (And.intro (StepD.call (has_fn ((reachN N : Nat) : Int) (i : Int) (by omega) (by omega)) rfl rfl rfl) (And.intro rfl (And.intro trivial ?_))))
            refine hK63 _ _ ?_
            clear hK63
            first | refine AWPD.cond rfl (fun h8 => ?_) (fun h8 => ?_)
            · try dsimp only [Ty.T] at h8
              try simp only [castL_self] at h8
              try simp only [Int.toNat_natCast] at h8
              try simp only [Int.toNat_zero] at h8
              -- region 38
              refine AWPD.keep [9, 11, 19, 20, 21, 124, 125] rfl ?_
              refine AWPD.region tabOK rfl ?_
              repeat refine And.intro (by first | exact fun h => h | exact fun _ => rfl | (intro h; rw [h]; rfl) | omega | (intros; (try dsimp only [Ty.T, Ty.size]); (try simp only [castL_self, Int.toNat_natCast, Int.toNat_zero, Int.toNat_one, true_and, List.length_append, List.length_set, List.length_drop, List.length_take, List.length_replicate, List.length_cons, List.length_nil, Nat.zero_add, Nat.mul_one]); omega) | decide | (intros; simp_all; done) | (intros; simp_all; omega)) ?_
              refine Exists.intro _ (Exists.intro _ (And.intro (StepD.callO (i := 0) (find_grp (i : Int) (by omega) (by omega)) rfl rfl rfl rfl (by first | exact rfl | exact row_free _ _ _) (by first | exact rfl | exact row_free _ _ _)) (And.intro rfl (And.intro trivial ?_))))
              refine Exists.intro _ (Exists.intro _ (And.intro (StepD.callO (i := 1) (addI_fn _ _ (by omega)) rfl rfl rfl rfl (by first | exact rfl | exact row_free _ _ _) (by first | exact rfl | exact row_free _ _ _)) (And.intro rfl (And.intro trivial ?_))))
              repeat refine And.intro (by first | exact fun h => h | exact fun _ => rfl | (intro h; rw [h]; rfl) | omega | (intros; (try dsimp only [Ty.T, Ty.size]); (try simp only [castL_self, Int.toNat_natCast, Int.toNat_zero, Int.toNat_one, true_and, List.length_append, List.length_set, List.length_drop, List.length_take, List.length_replicate, List.length_cons, List.length_nil, Nat.zero_add, Nat.mul_one]); omega) | decide | (intros; simp_all; done) | (intros; simp_all; omega)) ?_
              refine hK60 _ _ ?_
              clear hK60
              -- region 39
              refine AWPD.keep [9, 11, 19, 20, 124, 125] rfl ?_
              refine AWPD.region tabOK rfl ?_
              repeat refine And.intro (by first | exact fun h => h | exact fun _ => rfl | (intro h; rw [h]; rfl) | omega | (intros; (try dsimp only [Ty.T, Ty.size]); (try simp only [castL_self, Int.toNat_natCast, Int.toNat_zero, Int.toNat_one, true_and, List.length_append, List.length_set, List.length_drop, List.length_take, List.length_replicate, List.length_cons, List.length_nil, Nat.zero_add, Nat.mul_one]); omega) | decide | (intros; simp_all; done) | (intros; simp_all; omega)) ?_
              refine ⟨n3 - 1, i + 1, [0, 1, 2], by omega, by omega, ⟨by decide, rfl⟩, ⟨grp_same rfl, (by show queR _ _ _ _ = queR _ _ _ _; rw [qV_yes h8]; rfl), ⟨rfl, rfl, outV_set2 (by omega) (numV_yes h8)⟩, trivial⟩, ?_⟩
              repeat' first | exact True.intro | exact rfl | exact ⟨rfl, rfl⟩ | refine And.intro ?_ ?_
            · try dsimp only [Ty.T] at h8
              try simp only [castL_self] at h8
              try simp only [Int.toNat_natCast] at h8
              try simp only [Int.toNat_zero] at h8
              refine AWPD.skip ?_
              refine hK60 _ _ ?_
              clear hK60
              -- region 39
              refine AWPD.keep [9, 11, 19, 20, 124, 125] rfl ?_
              refine AWPD.region tabOK rfl ?_
              repeat refine And.intro (by first | exact fun h => h | exact fun _ => rfl | (intro h; rw [h]; rfl) | omega | (intros; (try dsimp only [Ty.T, Ty.size]); (try simp only [castL_self, Int.toNat_natCast, Int.toNat_zero, Int.toNat_one, true_and, List.length_append, List.length_set, List.length_drop, List.length_take, List.length_replicate, List.length_cons, List.length_nil, Nat.zero_add, Nat.mul_one]); omega) | decide | (intros; simp_all; done) | (intros; simp_all; omega)) ?_
              refine ⟨n3 - 1, i + 1, [0, 1, 2], by omega, by omega, ⟨by decide, rfl⟩, ⟨grp_same rfl, (by show queR _ _ _ _ = queR _ _ _ _; rw [qV_no h8]), ⟨rfl, rfl, outV_set (by omega) (numV_no h8)⟩, trivial⟩, ?_⟩
              repeat' first | exact True.intro | exact rfl | exact ⟨rfl, rfl⟩ | refine And.intro ?_ ?_
          · try dsimp only [Ty.T] at h7
            try simp only [castL_self] at h7
            try simp only [Int.toNat_natCast] at h7
            try simp only [Int.toNat_zero] at h7
            have hil : i = N.length := by omega
            refine AWPD.exit ?_
            refine hK56 _ _ ?_
            clear hK56
            refine AWPD.seq fun K64 hK64 => ?_
            -- region 40
            refine AWPD.keep [20] rfl ?_
            refine AWPD.region tabOK rfl ?_
            refine hK64 _ _ ?_
            clear hK64
            refine AWPD.ret (And.intro (.inl rfl) ?_)
            -- result 1
            exact ⟨fitR rfl rfl (by unfold viewsV; rw [if_pos he, show i = N.length by omega]), fitE rfl he.symm⟩
end Go.Proofs.YtndoigkmdcgjfaaDoor
