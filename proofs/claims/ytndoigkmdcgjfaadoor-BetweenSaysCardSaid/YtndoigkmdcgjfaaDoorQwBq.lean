/-
  WALKS of between.Holds, between.Quiet, and of the law BetweenQuiet; and Rushby's law behind it.
-/
import Derived.Test.YtndoigkmdcgjfaaDoorQwBv
namespace Go.Proofs.YtndoigkmdcgjfaaDoor
open Go Go.Qw
set_option maxRecDepth 10000
set_option linter.unusedSimpArgs false
set_option linter.unusedVariables false
set_option linter.unusedSectionVars false

/-! ### The first ones tell the classes -/
theorem firstE_spec {E : Nat → Prop} : ∀ (n j : Nat), (∃ m, j ≤ m ∧ m ≤ j + n ∧ E m) → j ≤ firstE E n j ∧ E (firstE E n j) ∧ ∀ i, j ≤ i → i < firstE E n j → ¬E i
  | 0, j, ⟨m, h1, h2, h3⟩ => by
    unfold firstE
    rw [show j = m by omega]
    exact ⟨Nat.le_refl _, h3, fun i hi hi2 => by omega⟩
  | n + 1, j, ⟨m, h1, h2, h3⟩ => by
    unfold firstE
    by_cases he : E j
    · rw [if_pos he]
      exact ⟨Nat.le_refl _, he, fun i hi hi2 => by omega⟩
    · rw [if_neg he]
      have hm : j + 1 ≤ m := by
        rcases Nat.lt_or_ge j m with h | h
        · exact h
        · exact absurd (by rw [show j = m by omega]; exact h3) he
      obtain ⟨g1, g2, g3⟩ := firstE_spec n (j + 1) ⟨m, hm, by omega, h3⟩
      refine ⟨by omega, g2, fun i hi hi2 => ?_⟩
      by_cases hij : i = j
      · rw [hij]; exact he
      · exact g3 i (by omega) hi2
section
variable {P : Int} {A : List Int} {N S : List (List Int)} {f : List Int}
theorem fB_spec (p k : Nat) : CloB P A N f p (fB P A N f p k) k ∧ ∀ i, i < fB P A N f p k → ¬CloB P A N f p i k := by
  obtain ⟨_, h1, h2⟩ := firstE_spec (E := fun j => CloB P A N f p j k) k 0 ⟨k, Nat.zero_le _, by omega, .refl⟩
  exact ⟨h1, fun i hi => h2 i (Nat.zero_le _) hi⟩
theorem fB_iff {p s t : Nat} : fB P A N f p s = fB P A N f p t ↔ CloB P A N f p s t := by
  obtain ⟨a1, a2⟩ := fB_spec (P := P) (A := A) (N := N) (f := f) p s
  obtain ⟨b1, b2⟩ := fB_spec (P := P) (A := A) (N := N) (f := f) p t
  constructor
  · intro h
    rw [h] at a1
    exact a1.symm.trans b1
  · intro h
    rcases Nat.lt_trichotomy (fB P A N f p s) (fB P A N f p t) with hlt | he | hlt
    · exact absurd (a1.trans h) (b2 _ hlt)
    · exact he
    · exact absurd (b1.trans h.symm) (a2 _ hlt)
theorem bviews_len (he : polE P A N S f = 0) : (bviewsV P A N S f).length = P.toNat := by unfold bviewsV; rw [if_pos he, bvL_len]
theorem bviews_get (he : polE P A N S f = 0) {p : Nat} (hp : p < P.toNat) : (bviewsV P A N S f).getD p [] = numR N.length (fB P A N f p) := by unfold bviewsV; rw [if_pos he, bvL_get hp]
theorem bviews_eq (he : polE P A N S f = 0) {p s t : Nat} (hp : p < P.toNat) (hs : s < N.length) (ht : t < N.length) : ((bviewsV P A N S f).getD p []).getD s 0 = ((bviewsV P A N S f).getD p []).getD t 0 ↔ CloB P A N f p s t := by
  rw [bviews_get he hp, numR_eq hs ht, fB_iff]
/-- What is alike looks the same. -/
def See1 (P : Int) (A : List Int) (N S : List (List Int)) (f : List Int) (p s t : Nat) : Prop := CloB P A N f p s t → (S.getD s []).getD p 0 = (S.getD t []).getD p 0
def AllSee (P : Int) (A : List Int) (N S : List (List Int)) (f : List Int) : Prop := ∀ p, p < P.toNat → ∀ s t, s < N.length → t < s → See1 P A N S f p s t
end
section
open Classical
variable {P : Int} {A : List Int} {N S : List (List Int)} {f : List Int}
noncomputable def bholdsV (P : Int) (A : List Int) (N S : List (List Int)) (f : List Int) : Bool := decide (polE P A N S f = 0 ∧ AllSee P A N S f)
theorem bholds_err (h : polE P A N S f ≠ 0) : bholdsV P A N S f = false := decide_eq_false fun hh => h hh.1
theorem bholds_no (_he : polE P A N S f = 0) {p s t : Nat} (hp : p < P.toNat) (hs : s < N.length) (ht : t < s) (hc : CloB P A N f p s t) (hne : ¬(S.getD s []).getD p 0 = (S.getD t []).getD p 0) : bholdsV P A N S f = false := decide_eq_false fun hh => hne (hh.2 p hp s t hs ht hc)
theorem bholds_yes (he : polE P A N S f = 0) (h : AllSee P A N S f) : bholdsV P A N S f = true := decide_eq_true ⟨he, h⟩
theorem bholds_is (h : bholdsV P A N S f = true) : AllSee P A N S f := (of_decide_eq_true h).2
end
section
variable {P : Int} {A : List Int} {N S : List (List Int)} {f : List Int}
theorem AllSee.all (h : AllSee P A N S f) {p s t : Nat} (hp : p < P.toNat) (hs : s < N.length) (ht : t < N.length) (hc : CloB P A N f p s t) : (S.getD s []).getD p 0 = (S.getD t []).getD p 0 := by
  rcases Nat.lt_trichotomy s t with hlt | rfl | hlt
  · exact (h p hp t s ht hlt hc.symm).symm
  · rfl
  · exact h p hp s t hs hlt hc

/-! ### What is left runs alike -/

def runF (N : List (List Int)) (s : Nat) : List Int → Nat
  | [] => s
  | a :: w => runF N (nx N s a.toNat) w
theorem runF_app (N : List (List Int)) : ∀ (s : Nat) (v : List Int) (a : Int), runF N s (v ++ [a]) = nx N (runF N s v) a.toNat
  | s, [], a => rfl
  | s, b :: v, a => runF_app N _ v a
theorem runF_in (g : GoodM P A N S) : ∀ {w : List Int} {s : Nat}, s < N.length → inAll w ((A.length : Int) - 1) → runF N s w < N.length
  | [], s, hs, _ => hs
  | a :: w, s, hs, hw => by
    have h0 := hw 0 (by simp)
    simp only [List.getD_cons_zero] at h0
    show runF N (nx N s a.toNat) w < N.length
    refine runF_in g (g.nx_lt hs (show a.toNat < A.length by omega)).2.2 fun i hi => ?_
    have := hw (i + 1) (by simpa using hi)
    simpa using this
theorem runF_is (g : GoodM P A N S) {w : List Int} {s : Nat} (hs : s < N.length) (hw : inAll w ((A.length : Int) - 1)) : ∀ i, i ≤ w.length → runN N (s : Int) w i = ((runF N s (w.take i) : Nat) : Int)
  | 0, _ => rfl
  | i + 1, hi => by
    have ih := runF_is g hs hw i (by omega)
    have hwi := hw i (by omega)
    have ht : inAll (w.take i) ((A.length : Int) - 1) := fun q hq => by
      have hq' : q < i := by rw [List.length_take] at hq; omega
      have := hw q (by omega)
      simp only [List.getD_eq_getElem?_getD, List.getElem?_take, if_pos hq'] at this ⊢
      exact this
    have hr := runF_in g hs ht
    have := g.nx_lt hr (show (w.getD i 0).toNat < A.length by omega)
    rw [runN, ih, take_snoc (by omega) 0, runF_app]
    unfold nx at this ⊢
    rw [Int.toNat_natCast]
    omega
theorem GoodW.run0 {part : Int} {w : List Int} (g : GoodW P A N S f part w) : runE P A N S 0 w = 0 := by
  have := g.m.some
  unfold runE
  rw [if_neg (fun h => h (word_zero g.he g.few g.w)), if_pos (by omega)]
theorem srcS_mem {part : Int} {w : List Int} : ∀ k, k ≤ w.length → ∀ x ∈ (srcS A f part w k).2, ∃ i, i < w.length ∧ x = w.getD i 0
  | 0, _, x, hx => by cases hx
  | k + 1, hk, x, hx => by
    rw [srcS] at hx
    split at hx
    · rcases List.mem_append.1 hx with h | h
      · exact srcS_mem k (by omega) x h
      · simp only [List.mem_singleton] at h
        exact ⟨w.length - 1 - k, by omega, h⟩
    · exact srcS_mem k (by omega) x hx
theorem GoodW.betW {part : Int} {w : List Int} (g : GoodW P A N S f part w) : inAll (betL A f part w) ((A.length : Int) - 1) := fun i hi => by
  have hm : (betL A f part w).getD i 0 ∈ betL A f part w := by simp only [List.getD, List.getElem?_eq_getElem hi, Option.getD_some]; exact List.getElem_mem hi
  unfold betL at hm
  rw [List.mem_reverse] at hm
  obtain ⟨j, hj, e⟩ := srcS_mem w.length (Nat.le_refl _) _ hm
  unfold betL
  rw [e]
  exact g.w j hj
theorem GoodW.run0B {part : Int} {w : List Int} (g : GoodW P A N S f part w) : runE P A N S 0 (betL A f part w) = 0 := by
  have := g.m.some
  have h1 := betL_len A f part w
  have h2 := g.few
  unfold runE
  rw [if_neg (fun h => h (word_zero g.he (by omega) g.betW)), if_pos (by omega)]
open Classical in
noncomputable def bquietV (P : Int) (A : List Int) (N S : List (List Int)) (f : List Int) (part : Int) (w : List Int) : Bool :=
  decide (bothE P A N S f part w = 0 ∧ (S.getD (runV P A N S 0 w).toNat []).getD part.toNat 0 = (S.getD (runV P A N S 0 (betL A f part w)).toNat []).getD part.toNat 0)
/-- HAIGH, YOUNG; RUSHBY: what is left runs to what is alike. -/
theorem rushby {part : Int} {w : List Int} (g : GoodW P A N S f part w) : ∀ k, k ≤ w.length → ∀ s t, s < N.length → t < N.length → (∀ v, v < P.toNat → (srcS A f part w k).1.testBit v = true → CloB P A N f v s t) →
    CloB P A N f part.toNat (runF N s (w.drop (w.length - k))) (runF N t (srcS A f part w k).2.reverse)
  | 0, _, s, t, hs, ht, h => by
    have hp := g.part
    rw [Nat.sub_zero, List.drop_length]
    refine h part.toNat (by omega) ?_
    show (2 ^ part.toNat).testBit part.toNat = true
    exact Nat.testBit_two_pow_self
  | k + 1, hk, s, t, hs, ht, h => by
    have ha := g.act (i := w.length - 1 - k) (by omega)
    have hw : w.drop (w.length - (k + 1)) = w.getD (w.length - 1 - k) 0 :: w.drop (w.length - k) := by
      rw [show w.length - (k + 1) = w.length - 1 - k by omega, List.drop_eq_getElem_cons (by omega), show w.length - 1 - k + 1 = w.length - k by omega]
      congr 1
      simp [List.getD, show w.length - 1 - k < w.length by omega]
    have hx := (g.m.nx_lt hs ha.2.1).2.2
    have hy := (g.m.nx_lt ht ha.2.1).2.2
    have hbp : byA A (w.getD (w.length - 1 - k) 0).toNat < P.toNat := by
      have := g.f.len
      unfold byA
      omega
    rw [hw]
    show CloB P A N f part.toNat (runF N (nx N s (w.getD (w.length - 1 - k) 0).toNat) (w.drop (w.length - k))) _
    by_cases hc : (f.getD (A.getD (w.getD (w.length - 1 - k) 0).toNat 0).toNat 0).toNat &&& (srcS A f part w k).1 ≠ 0
    · rw [srcS_yes hc] at h ⊢
      rw [List.reverse_append]
      refine rushby g k (by omega) _ _ hx hy fun v hv hb => ?_
      refine .two hv hs ht ha.2.1 (h v hv (by rw [Nat.testBit_or, hb]; rfl)) (h _ hbp ?_)
      rw [Nat.testBit_or]
      show (_ || (2 ^ byA A (w.getD (w.length - 1 - k) 0).toNat).testBit _) = true
      rw [Nat.testBit_two_pow_self, Bool.or_true]
    · rw [srcS_no hc] at h ⊢
      refine rushby g k (by omega) _ _ hx ht fun v hv hb => ?_
      refine Clo.trans (Clo.symm (.one hv hs ha.2.1 ?_)) (h v hv hb)
      unfold qaF
      cases hf : (f.getD (A.getD (w.getD (w.length - 1 - k) 0).toNat 0).toNat 0).toNat.testBit (v : Int).toNat with
      | false => rfl
      | true =>
        refine absurd (fun e => ?_) hc
        have := congrArg (·.testBit v) e
        simp only [Nat.testBit_and, Nat.zero_testBit] at this
        rw [hb, show (f.getD (A.getD (w.getD (w.length - 1 - k) 0).toNat 0).toNat 0).toNat.testBit v = true from hf] at this
        cases this
theorem quiet_of_holds {part : Int} {w : List Int} (he : bothE P A N S f part w = 0) (h : bholdsV P A N S f = true) : bquietV P A N S f part w = true := by
  have g := both_ok he
  have hN0 := g.m.some
  have hp := g.part
  have hc := rushby g w.length (Nat.le_refl _) 0 0 hN0 hN0 fun _ _ _ => .refl
  rw [Nat.sub_self, List.drop_zero] at hc
  have r1 := runF_is g.m hN0 g.w w.length (Nat.le_refl _)
  have r2 := runF_is g.m hN0 g.betW (betL A f part w).length (Nat.le_refl _)
  rw [List.take_length] at r1 r2
  refine decide_eq_true ⟨he, ?_⟩
  have e1 : (runV P A N S 0 w).toNat = runF N 0 w := by
    unfold runV
    rw [if_pos g.run0]
    have r1 : runN N 0 w w.length = _ := r1
    rw [r1]; rfl
  have e2 : (runV P A N S 0 (betL A f part w)).toNat = runF N 0 (betL A f part w) := by
    unfold runV
    rw [if_pos g.run0B]
    have r2 : runN N 0 (betL A f part w) (betL A f part w).length = _ := r2
    rw [r2]; rfl
  rw [e1, e2]
  exact (bholds_is h).all (by omega) (runF_in g.m hN0 g.w) (runF_in g.m hN0 g.betW) hc
theorem both_pol {part : Int} {w : List Int} (h : bothE P A N S f part w = 0) : polE P A N S f = 0 := by
  unfold bothE at h
  split at h
  · rename_i h1; exact absurd h h1
  · rename_i h1
    exact (chk_ok (Decidable.not_not.1 h1)).1
end

theorem bholds_fn (P : Int) (A : List Int) (N S : List (List Int)) (f : List Int) : LiftsD Tryd.prog 44 [.agg [.i P, .sl .int A, .sl (.sl .int) N, .sl (.sl .int) S], .sl .int f] (.tup [.b (bholdsV P A N S f), .er 81 (polE P A N S f)]) := by
  refine LiftsD.of_body 74 [.tmp 4, .tmp 5] Tryd.func44 rfl Tryd.ntmps44 (by kernel_rfl) rfl rfl fun w0 X0 => ?_
  refine AWPD.seq fun K1 hK1 => ?_
  -- region 0
  refine AWPD.keep [0, 1] rfl ?_
  refine AWPD.region tabOK rfl ?_
  refine hK1 _ _ ?_
  clear hK1
  refine AWPD.seq fun K2 hK2 => ?_
  -- region 1
  refine AWPD.keep [1, 2] rfl ?_
  refine AWPD.region tabOK rfl ?_
  repeat refine And.intro (by first | exact fun h => h | exact fun _ => rfl | (intro h; rw [h]; rfl) | omega | (intros; (try dsimp only [Ty.T, Ty.size]); (try simp only [castL_self, Int.toNat_natCast, Int.toNat_zero, Int.toNat_one, true_and, List.length_append, List.length_set, List.length_drop, List.length_take, List.length_replicate, List.length_cons, List.length_nil, Nat.zero_add, Nat.mul_one]); omega) | decide | (intros; simp_all; done) | (intros; simp_all; omega)) ?_
  refine Exists.intro _ (Exists.intro _ (And.intro (StepD.call (bviews_fn _ _ _ _ _) rfl rfl rfl) (And.intro rfl (And.intro trivial ?_))))
  refine hK2 _ _ ?_
  clear hK2
  refine AWPD.seq fun K3 hK3 => ?_
  refine AWPD.seq fun K4 hK4 => ?_
  -- region 2
  refine AWPD.keep [2, 6, 7] rfl ?_
  refine AWPD.region tabOK rfl ?_
  refine hK4 _ _ ?_
  clear hK4
  first | refine AWPD.condP rfl (fun h0 => ?_) (fun h0 => ?_) | refine AWPD.condN rfl (fun h0 => ?_) (fun h0 => ?_) | refine AWPD.condAP rfl (fun h0 => ?_) (fun h0 => ?_) | refine AWPD.condOP rfl (fun h0 => ?_) (fun h0 => ?_) | refine AWPD.condONN rfl (fun h0 => ?_) (fun h0 => ?_) | refine AWPD.condOPN rfl (fun h0 => ?_) (fun h0 => ?_) | refine AWPD.condA rfl (fun h0 => ?_) (fun h0 => ?_) | refine AWPD.condO rfl (fun h0 => ?_) (fun h0 => ?_) | refine AWPD.cond rfl (fun h0 => ?_) (fun h0 => ?_)
  · try dsimp only [Ty.T] at h0
    try simp only [castL_self] at h0
    try simp only [Int.toNat_natCast] at h0
    try simp only [Int.toNat_zero] at h0
    refine AWPD.seq fun K5 hK5 => ?_
    -- region 3
    refine AWPD.keep [7] rfl ?_
    refine AWPD.region tabOK rfl ?_
    refine hK5 _ _ ?_
    clear hK5
    refine AWPD.ret (And.intro (.inl rfl) ?_)
    -- result 0
    exact ⟨fitB rfl (bholds_err h0).symm, fitE rfl rfl⟩
  · try dsimp only [Ty.T] at h0
    try simp only [castL_self] at h0
    try simp only [Int.toNat_natCast] at h0
    try simp only [Int.toNat_zero] at h0
    have he : polE P A N S f = 0 := by simpa using h0
    obtain ⟨hme, gf⟩ := pol_ok he
    have g := mach_good hme
    have hN := g.few
    have hP := g.parts
    have hvl := bviews_len he
    have hlS := g.lenS
    refine AWPD.skip ?_
    refine hK3 _ _ ?_
    clear hK3
    refine AWPD.seq fun K6 hK6 => ?_
    refine AWPD.seq fun K7 hK7 => ?_
    -- region 4
    refine AWPD.keep [2, 6] rfl ?_
    refine AWPD.region tabOK rfl ?_
    refine hK7 _ _ ?_
    clear hK7
    refine AWPD.block ?_
    -- LOOP 0 live [2, 6, 21, 22] changed [22]
    refine AWPD.loopK (σ := Nat) [2, 6, 21] (fun p base => (22, .i (p : Int)) :: base) (fun _ => []) (fun n p => n + p = P.toNat ∧ ∀ q, q < p → ∀ s t, s < N.length → t < s → See1 P A N S f q s t) (P.toNat) 0 [] rfl rfl (⟨by omega, by intro q hq; omega⟩) (by decide) trivial (by repeat' first | exact True.intro | exact rfl | exact ⟨rfl, rfl⟩ | refine And.intro ?_ ?_) fun n0 p hI0 => ?_
    obtain ⟨hn0, hv0⟩ := hI0
    refine AWPD.seq fun K8 hK8 => ?_
    -- region 5
    refine AWPD.keep [2, 6, 21, 22] rfl ?_
    refine AWPD.region tabOK rfl ?_
    refine hK8 _ _ ?_
    clear hK8
    refine AWPD.seq fun K9 hK9 => ?_
    first | refine AWPD.condP rfl (fun h1 => ?_) (fun h1 => ?_) | refine AWPD.condN rfl (fun h1 => ?_) (fun h1 => ?_) | refine AWPD.condAP rfl (fun h1 => ?_) (fun h1 => ?_) | refine AWPD.condOP rfl (fun h1 => ?_) (fun h1 => ?_) | refine AWPD.condONN rfl (fun h1 => ?_) (fun h1 => ?_) | refine AWPD.condOPN rfl (fun h1 => ?_) (fun h1 => ?_) | refine AWPD.condA rfl (fun h1 => ?_) (fun h1 => ?_) | refine AWPD.condO rfl (fun h1 => ?_) (fun h1 => ?_) | refine AWPD.cond rfl (fun h1 => ?_) (fun h1 => ?_)
    · try dsimp only [Ty.T] at h1
      try simp only [castL_self] at h1
      try simp only [Int.toNat_natCast] at h1
      try simp only [Int.toNat_zero] at h1
      rw [hvl] at h1
      have hpl : p < P.toNat := by omega
      have hvp := bviews_get he hpl
      have hrl : ((bviewsV P A N S f).getD p []).length = N.length := by rw [hvp, numR_len]
      refine AWPD.skip ?_
      refine hK9 _ _ ?_
      clear hK9
      refine AWPD.seq fun K10 hK10 => ?_
      refine AWPD.block ?_
      refine AWPD.seq fun K11 hK11 => ?_
      -- region 6
      refine AWPD.keep [2, 6, 21, 22] rfl ?_
      refine AWPD.region tabOK rfl ?_
      refine hK11 _ _ ?_
      clear hK11
      refine AWPD.seq fun K12 hK12 => ?_
      -- region 7
      refine AWPD.keep [2, 6, 8, 21, 22] rfl ?_
      refine AWPD.region tabOK rfl ?_
      repeat refine And.intro (by first | exact fun h => h | exact fun _ => rfl | (intro h; rw [h]; rfl) | omega | (intros; (try dsimp only [Ty.T, Ty.size]); (try simp only [castL_self, Int.toNat_natCast, Int.toNat_zero, Int.toNat_one, true_and, List.length_append, List.length_set, List.length_drop, List.length_take, List.length_replicate, List.length_cons, List.length_nil, Nat.zero_add, Nat.mul_one]); omega) | decide | (intros; simp_all; done) | (intros; simp_all; omega)) ?_
      refine hK12 _ _ ?_
      clear hK12
      refine AWPD.block ?_
      -- LOOP 1 live [2, 6, 8, 21, 22, 29, 30] changed [30]
      refine AWPD.loopK (σ := Nat) [2, 6, 8, 21, 22, 29] (fun s base => (30, .i (s : Int)) :: base) (fun _ => []) (fun n s => n + s = N.length ∧ ∀ u v, u < s → v < u → See1 P A N S f p u v) (N.length) 0 [] rfl rfl (⟨by omega, by intro u v hu; omega⟩) (by decide) trivial (by repeat' first | exact True.intro | exact rfl | exact ⟨rfl, rfl⟩ | refine And.intro ?_ ?_) fun n1 s hI1 => ?_
      obtain ⟨hn1, hv1⟩ := hI1
      refine AWPD.seq fun K13 hK13 => ?_
      -- region 8
      refine AWPD.keep [2, 6, 8, 21, 22, 29, 30] rfl ?_
      refine AWPD.region tabOK rfl ?_
      refine hK13 _ _ ?_
      clear hK13
      refine AWPD.seq fun K14 hK14 => ?_
      first | refine AWPD.condP rfl (fun h2 => ?_) (fun h2 => ?_) | refine AWPD.condN rfl (fun h2 => ?_) (fun h2 => ?_) | refine AWPD.condAP rfl (fun h2 => ?_) (fun h2 => ?_) | refine AWPD.condOP rfl (fun h2 => ?_) (fun h2 => ?_) | refine AWPD.condONN rfl (fun h2 => ?_) (fun h2 => ?_) | refine AWPD.condOPN rfl (fun h2 => ?_) (fun h2 => ?_) | refine AWPD.condA rfl (fun h2 => ?_) (fun h2 => ?_) | refine AWPD.condO rfl (fun h2 => ?_) (fun h2 => ?_) | refine AWPD.cond rfl (fun h2 => ?_) (fun h2 => ?_)
      · try dsimp only [Ty.T] at h2
        try simp only [castL_self] at h2
        try simp only [Int.toNat_natCast] at h2
        try simp only [Int.toNat_zero] at h2
        rw [hrl] at h2
        have hsl : s < N.length := by omega
        have hrs := g.rowS s hsl
        refine AWPD.skip ?_
        refine hK14 _ _ ?_
        clear hK14
        refine AWPD.seq fun K15 hK15 => ?_
        refine AWPD.block ?_
        refine AWPD.seq fun K16 hK16 => ?_
        -- region 9
        refine AWPD.keep [2, 6, 8, 21, 22, 29, 30] rfl ?_
        refine AWPD.region tabOK rfl ?_
        refine hK16 _ _ ?_
        clear hK16
        refine AWPD.seq fun K17 hK17 => ?_
        -- region 10
        refine AWPD.keep [2, 6, 8, 9, 21, 22, 29, 30] rfl ?_
        refine AWPD.region tabOK rfl ?_
        refine hK17 _ _ ?_
        clear hK17
        refine AWPD.block ?_
        -- LOOP 2 live [2, 6, 8, 9, 21, 22, 29, 30, 33, 34] changed [34]
        refine AWPD.loopK (σ := Nat) [2, 6, 8, 9, 21, 22, 29, 30, 33] (fun t base => (34, .i (t : Int)) :: base) (fun _ => []) (fun n t => n + t = s ∧ ∀ v, v < t → See1 P A N S f p s v) (s) 0 [] rfl rfl (⟨by omega, by intro v hv; omega⟩) (by decide) trivial (by repeat' first | exact True.intro | exact rfl | exact ⟨rfl, rfl⟩ | refine And.intro ?_ ?_) fun n2 t hI2 => ?_
        obtain ⟨hn2, hv2⟩ := hI2
        refine AWPD.seq fun K18 hK18 => ?_
        -- region 11
        refine AWPD.keep [2, 6, 8, 9, 21, 22, 29, 30, 33, 34] rfl ?_
        refine AWPD.region tabOK rfl ?_
        refine hK18 _ _ ?_
        clear hK18
        refine AWPD.seq fun K19 hK19 => ?_
        first | refine AWPD.condP rfl (fun h3 => ?_) (fun h3 => ?_) | refine AWPD.condN rfl (fun h3 => ?_) (fun h3 => ?_) | refine AWPD.condAP rfl (fun h3 => ?_) (fun h3 => ?_) | refine AWPD.condOP rfl (fun h3 => ?_) (fun h3 => ?_) | refine AWPD.condONN rfl (fun h3 => ?_) (fun h3 => ?_) | refine AWPD.condOPN rfl (fun h3 => ?_) (fun h3 => ?_) | refine AWPD.condA rfl (fun h3 => ?_) (fun h3 => ?_) | refine AWPD.condO rfl (fun h3 => ?_) (fun h3 => ?_) | refine AWPD.cond rfl (fun h3 => ?_) (fun h3 => ?_)
        · try dsimp only [Ty.T] at h3
          try simp only [castL_self] at h3
          try simp only [Int.toNat_natCast] at h3
          try simp only [Int.toNat_zero] at h3
          have htl : t < N.length := by omega
          have hrt := g.rowS t htl
          refine AWPD.skip ?_
          refine hK19 _ _ ?_
          clear hK19
          refine AWPD.seq fun K20 hK20 => ?_
          refine AWPD.block ?_
          refine AWPD.seq fun K21 hK21 => ?_
          -- region 12
          refine AWPD.keep [2, 6, 8, 9, 21, 22, 29, 30, 33, 34] rfl ?_
          refine AWPD.region tabOK rfl ?_
          refine hK21 _ _ ?_
          clear hK21
          refine AWPD.seq fun K22 hK22 => ?_
          -- region 13
          refine AWPD.keep [2, 6, 8, 9, 10, 21, 22, 29, 30, 33, 34] rfl ?_
          refine AWPD.draw tabOK [] rfl (by kernel_rfl) ?_
          repeat refine And.intro (by first | exact fun h => h | exact fun _ => rfl | (intro h; rw [h]; rfl) | omega | (intros; (try dsimp only [Ty.T, Ty.size]); (try simp only [castL_self, Int.toNat_natCast, Int.toNat_zero, Int.toNat_one, true_and, List.length_append, List.length_set, List.length_drop, List.length_take, List.length_replicate, List.length_cons, List.length_nil, Nat.zero_add, Nat.mul_one]); omega) | decide | (intros; simp_all; done) | (intros; simp_all; omega)) ?_
          refine hK22 _ _ ?_
          clear hK22
          first | refine AWPD.cond rfl (fun h4 => ?_) (fun h4 => ?_)
          · try dsimp only [Ty.T] at h4
            try simp only [castL_self] at h4
            try simp only [Int.toNat_natCast] at h4
            try simp only [Int.toNat_zero] at h4
            try simp only [Bool.cond_true_left, Bool.cond_false_right, Bool.cond_true_right, Bool.cond_false_left, Bool.or_eq_true, Bool.and_eq_true, decide_eq_true_eq, Bool.or_eq_false_iff, Bool.and_eq_false_iff, decide_eq_false_iff_not, Bool.not_eq_true', Bool.not_eq_false', Bool.not_eq_eq_eq_not, Bool.not_true, Bool.not_false] at h4
            have hv4 := (bviews_eq he hpl hsl htl).1 h4.1
            have hs4 := h4.2
            refine AWPD.seq fun K23 hK23 => ?_
            -- region 14
            refine AWPD.keep [] rfl ?_
            refine AWPD.region tabOK rfl ?_
            refine hK23 _ _ ?_
            clear hK23
            refine AWPD.ret (And.intro (.inl rfl) ?_)
            -- result 1
            exact ⟨fitB rfl (bholds_no he hpl hsl (by omega) hv4 hs4).symm, fitE rfl he.symm⟩
          · try dsimp only [Ty.T] at h4
            try simp only [castL_self] at h4
            try simp only [Int.toNat_natCast] at h4
            try simp only [Int.toNat_zero] at h4
            try simp only [Bool.cond_true_left, Bool.cond_false_right, Bool.cond_true_right, Bool.cond_false_left, Bool.or_eq_true, Bool.and_eq_true, decide_eq_true_eq, Bool.or_eq_false_iff, Bool.and_eq_false_iff, decide_eq_false_iff_not, Bool.not_eq_true', Bool.not_eq_false', Bool.not_eq_eq_eq_not, Bool.not_true, Bool.not_false] at h4
            have hv4 : See1 P A N S f p s t := fun hc => by
              rcases h4 with h | h
              · exact absurd ((bviews_eq he hpl hsl htl).2 hc) h
              · exact Decidable.not_not.1 h
            refine AWPD.skip ?_
            refine hK20 _ _ ?_
            clear hK20
            -- region 15
            refine AWPD.keep [2, 6, 8, 9, 21, 22, 29, 30, 33, 34] rfl ?_
            refine AWPD.region tabOK rfl ?_
            repeat refine And.intro (by first | exact fun h => h | exact fun _ => rfl | (intro h; rw [h]; rfl) | omega | (intros; (try dsimp only [Ty.T, Ty.size]); (try simp only [castL_self, Int.toNat_natCast, Int.toNat_zero, Int.toNat_one, true_and, List.length_append, List.length_set, List.length_drop, List.length_take, List.length_replicate, List.length_cons, List.length_nil, Nat.zero_add, Nat.mul_one]); omega) | decide | (intros; simp_all; done) | (intros; simp_all; omega)) ?_
            refine ⟨n2 - 1, t + 1, [], by omega, ⟨by omega, fun v hv => by
                  rcases Nat.lt_or_ge v t with hlt | hge
                  · exact hv2 v hlt
                  · rw [show v = t by omega]; exact hv4⟩, ⟨by decide, rfl⟩, trivial, ?_⟩
            repeat' first | exact True.intro | exact rfl | exact ⟨rfl, rfl⟩ | refine And.intro ?_ ?_
        · try dsimp only [Ty.T] at h3
          try simp only [castL_self] at h3
          try simp only [Int.toNat_natCast] at h3
          try simp only [Int.toNat_zero] at h3
          refine AWPD.exit ?_
          refine hK15 _ _ ?_
          clear hK15
          -- region 16
          refine AWPD.keep [2, 6, 8, 21, 22, 29, 30] rfl ?_
          refine AWPD.region tabOK rfl ?_
          repeat refine And.intro (by first | exact fun h => h | exact fun _ => rfl | (intro h; rw [h]; rfl) | omega | (intros; (try dsimp only [Ty.T, Ty.size]); (try simp only [castL_self, Int.toNat_natCast, Int.toNat_zero, Int.toNat_one, true_and, List.length_append, List.length_set, List.length_drop, List.length_take, List.length_replicate, List.length_cons, List.length_nil, Nat.zero_add, Nat.mul_one]); omega) | decide | (intros; simp_all; done) | (intros; simp_all; omega)) ?_
          refine ⟨n1 - 1, s + 1, [], by omega, ⟨by omega, fun u v hu hv => by
                rcases Nat.lt_or_ge u s with hlt | hge
                · exact hv1 u v hlt hv
                · have hus : u = s := by omega
                  rw [hus] at hv ⊢
                  exact hv2 v (by omega)⟩, ⟨by decide, rfl⟩, trivial, ?_⟩
          repeat' first | exact True.intro | exact rfl | exact ⟨rfl, rfl⟩ | refine And.intro ?_ ?_
      · try dsimp only [Ty.T] at h2
        try simp only [castL_self] at h2
        try simp only [Int.toNat_natCast] at h2
        try simp only [Int.toNat_zero] at h2
        rw [hrl] at h2
        refine AWPD.exit ?_
        refine hK10 _ _ ?_
        clear hK10
        -- region 17
        refine AWPD.keep [2, 6, 21, 22] rfl ?_
        refine AWPD.region tabOK rfl ?_
        repeat refine And.intro (by first | exact fun h => h | exact fun _ => rfl | (intro h; rw [h]; rfl) | omega | (intros; (try dsimp only [Ty.T, Ty.size]); (try simp only [castL_self, Int.toNat_natCast, Int.toNat_zero, Int.toNat_one, true_and, List.length_append, List.length_set, List.length_drop, List.length_take, List.length_replicate, List.length_cons, List.length_nil, Nat.zero_add, Nat.mul_one]); omega) | decide | (intros; simp_all; done) | (intros; simp_all; omega)) ?_
        refine ⟨n0 - 1, p + 1, [], by omega, ⟨by omega, fun q hq u v hu hv => by
              rcases Nat.lt_or_ge q p with hlt | hge
              · exact hv0 q hlt u v hu hv
              · rw [show q = p by omega]; exact hv1 u v (by omega) hv⟩, ⟨by decide, rfl⟩, trivial, ?_⟩
        repeat' first | exact True.intro | exact rfl | exact ⟨rfl, rfl⟩ | refine And.intro ?_ ?_
    · try dsimp only [Ty.T] at h1
      try simp only [castL_self] at h1
      try simp only [Int.toNat_natCast] at h1
      try simp only [Int.toNat_zero] at h1
      rw [hvl] at h1
      refine AWPD.exit ?_
      refine hK6 _ _ ?_
      clear hK6
      refine AWPD.seq fun K24 hK24 => ?_
      -- region 18
      refine AWPD.keep [] rfl ?_
      refine AWPD.region tabOK rfl ?_
      refine hK24 _ _ ?_
      clear hK24
      refine AWPD.ret (And.intro (.inl rfl) ?_)
      -- result 2
      exact ⟨fitB rfl (bholds_yes he fun q hq u v hu hv => hv0 q (by omega) u v hu hv).symm, fitE rfl he.symm⟩
theorem bquiet_fn (P : Int) (A : List Int) (N S : List (List Int)) (f : List Int) (part : Int) (w : List Int) : LiftsD Tryd.prog 49 [.agg [.i P, .sl .int A, .sl (.sl .int) N, .sl (.sl .int) S], .sl .int f, .i part, .sl .int w] (.tup [.b (bquietV P A N S f part w), .er 81 (bothE P A N S f part w)]) := by
  refine LiftsD.of_body 69 [.tmp 8, .tmp 9] Tryd.func49 rfl Tryd.ntmps49 (by kernel_rfl) rfl rfl fun w0 X0 => ?_
  refine AWPD.seq fun K1 hK1 => ?_
  -- region 0
  refine AWPD.keep [0, 1, 2, 3] rfl ?_
  refine AWPD.region tabOK rfl ?_
  refine hK1 _ _ ?_
  clear hK1
  refine AWPD.seq fun K2 hK2 => ?_
  refine AWPD.seq fun K3 hK3 => ?_
  -- region 1
  refine AWPD.keep [1, 2, 3, 4] rfl ?_
  refine AWPD.region tabOK rfl ?_
  repeat refine And.intro (by first | exact fun h => h | exact fun _ => rfl | (intro h; rw [h]; rfl) | omega | (intros; (try dsimp only [Ty.T, Ty.size]); (try simp only [castL_self, Int.toNat_natCast, Int.toNat_zero, Int.toNat_one, true_and, List.length_append, List.length_set, List.length_drop, List.length_take, List.length_replicate, List.length_cons, List.length_nil, Nat.zero_add, Nat.mul_one]); omega) | decide | (intros; simp_all; done) | (intros; simp_all; omega)) ?_
  refine Exists.intro _ (Exists.intro _ (And.intro (StepD.call (bboth_fn _ _ _ _ _ _ _) rfl rfl rfl) (And.intro rfl (And.intro trivial ?_))))
  refine hK3 _ _ ?_
  clear hK3
  refine AWPD.seq fun K4 hK4 => ?_
  -- region 2
  refine AWPD.keep [1, 2, 3, 4, 10] rfl ?_
  refine AWPD.region tabOK rfl ?_
  refine hK4 _ _ ?_
  clear hK4
  first | refine AWPD.condP rfl (fun h0 => ?_) (fun h0 => ?_) | refine AWPD.condN rfl (fun h0 => ?_) (fun h0 => ?_) | refine AWPD.condAP rfl (fun h0 => ?_) (fun h0 => ?_) | refine AWPD.condOP rfl (fun h0 => ?_) (fun h0 => ?_) | refine AWPD.condONN rfl (fun h0 => ?_) (fun h0 => ?_) | refine AWPD.condOPN rfl (fun h0 => ?_) (fun h0 => ?_) | refine AWPD.condA rfl (fun h0 => ?_) (fun h0 => ?_) | refine AWPD.condO rfl (fun h0 => ?_) (fun h0 => ?_) | refine AWPD.cond rfl (fun h0 => ?_) (fun h0 => ?_)
  · try dsimp only [Ty.T] at h0
    try simp only [castL_self] at h0
    try simp only [Int.toNat_natCast] at h0
    try simp only [Int.toNat_zero] at h0
    refine AWPD.seq fun K5 hK5 => ?_
    -- region 3
    refine AWPD.keep [10] rfl ?_
    refine AWPD.region tabOK rfl ?_
    refine hK5 _ _ ?_
    clear hK5
    refine AWPD.ret (And.intro (.inl rfl) ?_)
    -- result 0
    exact ⟨fitB rfl (by unfold bquietV; rw [decide_eq_false (fun h => h0 h.1)]), fitE rfl rfl⟩
  · try dsimp only [Ty.T] at h0
    try simp only [castL_self] at h0
    try simp only [Int.toNat_natCast] at h0
    try simp only [Int.toNat_zero] at h0
    have he : bothE P A N S f part w = 0 := by simpa using h0
    have g := both_ok he
    have r1 := g.run0
    have r2 := g.run0B
    refine AWPD.skip ?_
    refine hK2 _ _ ?_
    clear hK2
    refine AWPD.seq fun K6 hK6 => ?_
    -- region 4
    refine AWPD.keep [1, 2, 3, 4] rfl ?_
    refine AWPD.region tabOK rfl ?_
    repeat refine And.intro (by first | exact fun h => h | exact fun _ => rfl | (intro h; rw [h]; rfl) | omega | (intros; (try dsimp only [Ty.T, Ty.size]); (try simp only [castL_self, Int.toNat_natCast, Int.toNat_zero, Int.toNat_one, true_and, List.length_append, List.length_set, List.length_drop, List.length_take, List.length_replicate, List.length_cons, List.length_nil, Nat.zero_add, Nat.mul_one]); omega) | decide | (intros; simp_all; done) | (intros; simp_all; omega)) ?_
    refine Exists.intro _ (Exists.intro _ (And.intro (StepD.call (sources_fn _ _ _ _ _ _ _ (by assumption)) rfl rfl rfl) (And.intro rfl (And.intro trivial ?_))))
    refine hK6 _ _ ?_
    clear hK6
    refine AWPD.seq fun K7 hK7 => ?_
    -- region 5
    refine AWPD.keep [2, 3, 4, 12] rfl ?_
    refine AWPD.region tabOK rfl ?_
    repeat refine And.intro (by first | exact fun h => h | exact fun _ => rfl | (intro h; rw [h]; rfl) | omega | (intros; (try dsimp only [Ty.T, Ty.size]); (try simp only [castL_self, Int.toNat_natCast, Int.toNat_zero, Int.toNat_one, true_and, List.length_append, List.length_set, List.length_drop, List.length_take, List.length_replicate, List.length_cons, List.length_nil, Nat.zero_add, Nat.mul_one]); omega) | decide | (intros; simp_all; done) | (intros; simp_all; omega)) ?_
    refine Exists.intro _ (Exists.intro _ (And.intro (StepD.call (run_fn _ _ _ _ _ _) rfl rfl rfl) (And.intro rfl (And.intro trivial ?_))))
    refine hK7 _ _ ?_
    clear hK7
    refine AWPD.seq fun K8 hK8 => ?_
    refine AWPD.seq fun K9 hK9 => ?_
    -- region 6
    refine AWPD.keep [2, 4, 12, 13, 14] rfl ?_
    refine AWPD.region tabOK rfl ?_
    refine hK9 _ _ ?_
    clear hK9
    first | refine AWPD.condP rfl (fun h1 => ?_) (fun h1 => ?_) | refine AWPD.condN rfl (fun h1 => ?_) (fun h1 => ?_) | refine AWPD.condAP rfl (fun h1 => ?_) (fun h1 => ?_) | refine AWPD.condOP rfl (fun h1 => ?_) (fun h1 => ?_) | refine AWPD.condONN rfl (fun h1 => ?_) (fun h1 => ?_) | refine AWPD.condOPN rfl (fun h1 => ?_) (fun h1 => ?_) | refine AWPD.condA rfl (fun h1 => ?_) (fun h1 => ?_) | refine AWPD.condO rfl (fun h1 => ?_) (fun h1 => ?_) | refine AWPD.cond rfl (fun h1 => ?_) (fun h1 => ?_)
    · try dsimp only [Ty.T] at h1
      try simp only [castL_self] at h1
      try simp only [Int.toNat_natCast] at h1
      try simp only [Int.toNat_zero] at h1
      exact absurd r1 h1
    · try dsimp only [Ty.T] at h1
      try simp only [castL_self] at h1
      try simp only [Int.toNat_natCast] at h1
      try simp only [Int.toNat_zero] at h1
      have hN0 := g.m.some
      have hpp := g.part
      have e1 : runV P A N S 0 w = runN N 0 w w.length := by unfold runV; rw [if_pos r1]
      have e2 : runV P A N S 0 (betL A f part w) = runN N 0 (betL A f part w) (betL A f part w).length := by unfold runV; rw [if_pos r2]
      have i1 := runN_in g.m (s := 0) (by omega) g.w w.length (Nat.le_refl _)
      have i2 := runN_in g.m (s := 0) (by omega) g.betW (betL A f part w).length (Nat.le_refl _)
      rw [← e1] at i1
      rw [← e2] at i2
      have s1 := g.m.rowS (runV P A N S 0 w).toNat (by omega)
      have s2 := g.m.rowS (runV P A N S 0 (betL A f part w)).toNat (by omega)
      have hlS := g.m.lenS
      refine AWPD.skip ?_
      refine hK8 _ _ ?_
      clear hK8
      refine AWPD.seq fun K10 hK10 => ?_
      -- region 8
      refine AWPD.keep [2, 4, 12, 13] rfl ?_
      refine AWPD.region tabOK rfl ?_
      repeat refine And.intro (by first | exact fun h => h | exact fun _ => rfl | (intro h; rw [h]; rfl) | omega | (intros; (try dsimp only [Ty.T, Ty.size]); (try simp only [castL_self, Int.toNat_natCast, Int.toNat_zero, Int.toNat_one, true_and, List.length_append, List.length_set, List.length_drop, List.length_take, List.length_replicate, List.length_cons, List.length_nil, Nat.zero_add, Nat.mul_one]); omega) | decide | (intros; simp_all; done) | (intros; simp_all; omega)) ?_
      refine Exists.intro _ (Exists.intro _ (And.intro (StepD.call (run_fn _ _ _ _ _ _) rfl rfl rfl) (And.intro rfl (And.intro trivial ?_))))
      refine hK10 _ _ ?_
      clear hK10
      refine AWPD.seq fun K11 hK11 => ?_
      -- region 9
      refine AWPD.keep [2, 4, 13, 14, 15] rfl ?_
      refine AWPD.draw tabOK [] rfl (by kernel_rfl) ?_
      repeat refine And.intro (by first | exact fun h => h | exact fun _ => rfl | (intro h; rw [h]; rfl) | omega | (intros; (try dsimp only [Ty.T, Ty.size]); (try simp only [castL_self, Int.toNat_natCast, Int.toNat_zero, Int.toNat_one, true_and, List.length_append, List.length_set, List.length_drop, List.length_take, List.length_replicate, List.length_cons, List.length_nil, Nat.zero_add, Nat.mul_one]); omega) | decide | (intros; simp_all; done) | (intros; simp_all; omega)) ?_
      refine hK11 _ _ ?_
      clear hK11
      refine AWPD.ret (And.intro (.inl rfl) ?_)
      -- result 1
      exact ⟨fitB rfl (by unfold bquietV; rw [r2]; simp [he]), fitE rfl (by rw [r2, he])⟩
end Go.Proofs.YtndoigkmdcgjfaaDoor
