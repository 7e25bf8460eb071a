/-
  UnwindJust: a part is quiet just if its view unwinds: the law, and the walk.
-/
import Derived.Test.YtndoigkmdcgjfaaDoorQwUx
import Derived.Test.YtndoigkmdcgjfaaDoorQwLo
namespace Go.Proofs.YtndoigkmdcgjfaaDoor
open Go Go.Qw
set_option maxRecDepth 10000
set_option linter.unusedSimpArgs false
set_option linter.unusedVariables false

/-! ### RUSHBY: it unwinds just where it is quiet -/

def obsS (S : List (List Int)) (part s : Int) : Int := (S.getD s.toNat []).getD part.toNat 0
theorem inAll_app {u v : List Int} {hi : Int} (h : inAll u hi) (k : inAll v hi) : inAll (u ++ v) hi := fun a ha => by
  rw [List.length_append] at ha
  by_cases h1 : a < u.length
  · have := h a h1
    simp only [List.getD, List.getElem?_append_left h1] at this ⊢
    exact this
  · have := k (a - u.length) (by omega)
    simp only [List.getD, List.getElem?_append_right (show u.length ≤ a by omega)] at this ⊢
    exact this
theorem inAll_one {a hi : Int} (h : 0 ≤ a ∧ a ≤ hi) : inAll [a] hi := fun k hk => by
  rw [List.length_singleton] at hk
  rw [show k = 0 by omega]
  exact h
theorem inAll_purge {A f : List Int} {part : Int} {w : List Int} {hi : Int} (h : inAll w hi) : inAll (purgeL A f part w) hi := inAll_mem.2 fun x hx => inAll_mem.1 h x ((List.mem_filter.1 hx).1)
theorem inAll_take {w : List Int} {hi : Int} (h : inAll w hi) (i : Nat) : inAll (w.take i) hi := inAll_mem.2 fun x hx => inAll_mem.1 h x (List.mem_of_mem_take hx)
theorem qaF_act {A f : List Int} {part : Int} {a : Nat} : qaF A f part a = !(actOn A f part (a : Int)) := by unfold qaF actOn; rw [Int.toNat_natCast]
section
variable {P : Int} {A : List Int} {N S : List (List Int)} {f : List Int} {part : Int} (g : GoodC P A N S f part)
include g
theorem GoodC.run_bit {w : List Int} (hw : inAll w ((A.length : Int) - 1)) {i : Nat} (hi : i ≤ w.length) : (reachN N).testBit (runN N 0 w i).toNat = true ∧ 0 ≤ runN N 0 w i := by
  have hN := g.m.some
  have h0 := runN_in g.m (s := 0) (w := w) ⟨by omega, by omega⟩ hw i hi
  exact ⟨(g.m.reach_bit h0.1).2 (g.m.reach_run hw (reO_zero N _) i hi), h0.1⟩
/-- What is alike stays so, and what is left out makes no odds. -/
theorem GoodC.along {w : List Int} (hw : inAll w ((A.length : Int) - 1)) : ∀ i, i ≤ w.length →
    vF N A f part (runN N 0 w i).toNat = vF N A f part (runN N 0 (purgeL A f part (w.take i)) (purgeL A f part (w.take i)).length).toNat
  | 0, _ => rfl
  | i + 1, hi => by
    have ih := GoodC.along hw i (by omega)
    have L := g.m.vF_least f part
    have ha := hw i (by omega)
    have hb := g.run_bit hw (show i ≤ w.length by omega)
    have hpw := inAll_purge (A := A) (f := f) (part := part) (inAll_take hw i)
    have hp := g.run_bit hpw (Nat.le_refl _)
    have hal : (w.getD i 0).toNat < A.length := by omega
    have e1 : (runN N 0 w (i + 1)).toNat = nx N (runN N 0 w i).toNat (w.getD i 0).toNat := rfl
    by_cases hc : actOn A f part (w.getD i 0) = true
    · rw [← purge_yes (by omega) hc, List.length_append, show [w.getD i 0].length = 1 from rfl, run_snoc, e1]
      exact L.both _ _ hb.1 hp.1 ih _ hal
    · rw [← purge_no (by omega) hc, ← ih, e1]
      refine (L.quiet _ _ hb.1 hal ?_).symm
      rw [qaF_act, show (((w.getD i 0).toNat : Nat) : Int) = w.getD i 0 by omega]
      simpa using hc
theorem GoodC.holds_quiet (he : chkE P A N S f part = 0) (hno : ∀ s t, s < t → t < N.length → ¬badV S part (viewsV P A N S f part) t s) : quietB N A f part S = true := by
  cases hq : quietB N A f part S with
  | true => rfl
  | false =>
    exfalso
    obtain ⟨L, _, hL, _, hne, _⟩ := g.loud hq
    have hal := g.along hL L.length (Nat.le_refl _)
    rw [List.take_of_length_le (Nat.le_refl _)] at hal
    have h1 := g.run_bit hL (Nat.le_refl _)
    have h2 := g.run_bit (inAll_purge (A := A) (f := f) (part := part) hL) (Nat.le_refl _)
    have l1 := bit_lt g.m.reach_lt h1.1
    have l2 := bit_lt g.m.reach_lt h2.1
    refine hne (two_same hno ⟨h1.2, by omega⟩ ⟨h2.2, by omega⟩ ?_ ?_)
    · rw [viewsV_get he l1]
      exact (num_at l1 h1.1).1
    · rw [viewsV_get he l1, viewsV_get he l2, num_iff l1 l2 h1.1 h2.1]
      exact hal
/-- What is reached is come to. -/
theorem GoodC.word_to : ∀ k, ∀ x ∈ reO N k, ∃ v, inAll v ((A.length : Int) - 1) ∧ runN N 0 v v.length = x
  | 0, x, hx => by
    have : x = 0 := by
      have hx : x ∈ qAdd .int 0 [] := hx
      rcases qAdd_mem.1 hx with h | h
      · cases h
      · exact h
    exact ⟨[], fun a ha => absurd ha (by simp), by rw [this]; rfl⟩
  | k + 1, x, hx => by
    have hx : x ∈ reI (N.getD ((reO N k).getD k 0).toNat []) (reO N k) (N.getD ((reO N k).getD k 0).toNat []).length := hx
    rcases reI_mem.1 hx with h | ⟨j, hj, e⟩
    · exact GoodC.word_to k x h
    · have hm : (reO N k).getD k 0 ∈ reO N k := by
        by_cases hk : k < (reO N k).length
        · simp only [List.getD, List.getElem?_eq_getElem hk, Option.getD_some]; exact List.getElem_mem hk
        · simp only [List.getD, List.getElem?_eq_none (show (reO N k).length ≤ k by omega), Option.getD_none]; exact reO_zero N k
      obtain ⟨v, hv, hr⟩ := GoodC.word_to k _ hm
      have hin := g.m.reO_in k _ hm
      have hrow := g.m.rowN ((reO N k).getD k 0).toNat (by omega)
      refine ⟨v ++ [(j : Int)], inAll_app hv (inAll_one ⟨by omega, by omega⟩), ?_⟩
      rw [List.length_append, show [(j : Int)].length = 1 from rfl, run_snoc, hr, Int.toNat_natCast, e]
open Classical in
theorem GoodC.quiet_holds (he : chkE P A N S f part = 0) (hq : quietB N A f part S = true) {a b : Nat} (hab : a < b) (hb : b < N.length) : ¬badV S part (viewsV P A N S f part) b a := by
  rintro ⟨hv0, hv, hne⟩
  have hbit : ∀ s, s < N.length → 0 ≤ (viewsV P A N S f part).getD s 0 → (reachN N).testBit s = true := fun s hs h => by
    rw [viewsV_get he hs, numV] at h
    split at h
    · assumption
    · omega
  have ha1 := hbit a (by omega) hv0
  have hb1 := hbit b hb (by rw [← hv]; exact hv0)
  rw [viewsV_get he (by omega), viewsV_get he hb, num_iff (by omega) hb ha1 hb1] at hv
  let R : Nat → Nat → Prop := fun s t => ∀ w, inAll w ((A.length : Int) - 1) → obsS S part (runN N (s : Int) w w.length) = obsS S part (runN N (t : Int) w w.length)
  have Rr : ∀ s, R s s := fun _ _ _ => rfl
  have Rs : ∀ {s t}, R s t → R t s := fun h w hw => (h w hw).symm
  have Rt : ∀ {s t u}, R s t → R t u → R s u := fun h k w hw => (h w hw).trans (k w hw)
  let c : Nat → Int := fun s => ((Classical.epsilon (fun t : Nat => R s t) : Nat) : Int)
  have hc : ∀ s t, c s = c t ↔ R s t := fun s t => by
    have e1 : R s (Classical.epsilon fun t : Nat => R s t) := Classical.epsilon_spec (p := fun t : Nat => R s t) ⟨s, Rr s⟩
    have e2 : R t (Classical.epsilon fun u : Nat => R t u) := Classical.epsilon_spec (p := fun u : Nat => R t u) ⟨t, Rr t⟩
    constructor
    · intro h
      have h : ((Classical.epsilon (fun t : Nat => R s t) : Nat) : Int) = ((Classical.epsilon (fun u : Nat => R t u) : Nat) : Int) := h
      have h' : Classical.epsilon (fun t : Nat => R s t) = Classical.epsilon (fun u : Nat => R t u) := by omega
      rw [h'] at e1
      exact Rt e1 (Rs e2)
    · intro h
      have : (fun u : Nat => R s u) = (fun u : Nat => R t u) := funext fun u => propext ⟨fun k => Rt (Rs h) k, fun k => Rt h k⟩
      show ((Classical.epsilon (fun t : Nat => R s t) : Nat) : Int) = ((Classical.epsilon (fun u : Nat => R t u) : Nat) : Int)
      rw [this]
  have nxI : ∀ s a, s < N.length → a < A.length → ((nx N s a : Nat) : Int) = (N.getD s []).getD a 0 := fun s a hs ha => by
    have := g.m.nx_lt hs ha
    unfold nx
    omega
  have step : ∀ (s a : Nat) (w : List Int), s < N.length → a < A.length → runN N (s : Int) ([(a : Int)] ++ w) ([(a : Int)] ++ w).length = runN N ((nx N s a : Nat) : Int) w w.length := fun s a w hs ha => by
    have := run_behind N (s : Int) [(a : Int)] w w.length (Nat.le_refl _)
    rw [List.length_append, this, nxI s a hs ha]
    congr 1
  have hrl := g.m.reach_lt
  have := (g.m.vF_least f part).least c (fun s a hs ha hqa => (hc _ _).2 fun u hu => ?_) (fun s t hs ht hst a ha => (hc _ _).2 fun w hw => ?_) a b (by omega) hb hv
  · have hR := (hc a b).1 this [] (fun a ha => absurd ha (by simp))
    have hR : obsS S part (a : Int) = obsS S part (b : Int) := hR
    unfold obsS at hR
    rw [Int.toNat_natCast, Int.toNat_natCast] at hR
    exact hne hR
  · have hsl := bit_lt hrl hs
    obtain ⟨v, hv, hr⟩ := g.word_to (reEnd N) (s : Int) ((g.m.reach_bit (by omega)).1 (by simpa using hs))
    have hal : inAll [(a : Int)] ((A.length : Int) - 1) := inAll_one ⟨by omega, by omega⟩
    have q1 := g.qu_quiet hq (inAll_app hv hu)
    have q2 := g.qu_quiet hq (inAll_app hv (inAll_app hal hu))
    have p1 : purgeL A f part (v ++ ([(a : Int)] ++ u)) = purgeL A f part (v ++ u) := by
      unfold purgeL
      rw [List.filter_append, List.filter_append, List.filter_append]
      have : List.filter (actOn A f part) [(a : Int)] = [] := by
        rw [List.filter_cons, if_neg (by rw [qaF_act] at hqa; simpa using hqa)]; rfl
      rw [this, List.nil_append]
    rw [p1] at q2
    have r1 := run_behind N 0 v u u.length (Nat.le_refl _)
    have r2 := run_behind N 0 v ([(a : Int)] ++ u) ([(a : Int)] ++ u).length (Nat.le_refl _)
    rw [List.length_append] at q1
    rw [List.length_append] at q2
    rw [hr] at r1 r2
    rw [r1] at q1
    rw [r2, step s a u hsl ha] at q2
    exact q1.trans q2.symm
  · have hR := (hc _ _).1 hst ([(a : Int)] ++ w) (inAll_app (inAll_one ⟨by omega, by omega⟩) hw)
    rwa [step s a w (bit_lt hrl hs) ha, step t a w (bit_lt hrl ht) ha] at hR
end

theorem unwindJust_fn (P : Int) (A : List Int) (N S : List (List Int)) (f : List Int) (part : Int) : LiftsG Tryd.prog tabG 7 [.agg [.i P, .sl .int A, .sl (.sl .int) N, .sl (.sl .int) S], .sl .int f, .i part] (.b true) := by
  refine LiftsG.of_body 48 [.tmp 6] Tryd.func7 rfl Tryd.ntmps7 (by kernel_rfl) rfl rfl fun w0 X0 hG0 => ?_
  refine AWPD.seq fun K1 hK1 => ?_
  -- region 0
  refine AWPD.keep [0, 1, 2] rfl ?_
  refine AWPD.region tabOK rfl ?_
  refine hK1 _ _ ?_
  clear hK1
  refine AWPD.seq fun K2 hK2 => ?_
  -- region 1
  refine AWPD.keep [1, 2, 3] rfl ?_
  refine AWPD.region tabOK rfl ?_
  refine Exists.intro _ (Exists.intro _ (And.intro (StepD.callG tabG_stays rfl hG0 (unwindFact_fn) rfl rfl rfl) (And.intro rfl (And.intro trivial ?_))))
  refine hK2 _ _ ?_
  clear hK2
  refine AWPD.seq fun K3 hK3 => ?_
  refine AWPD.seq fun K4 hK4 => ?_
  -- region 2
  refine AWPD.keep [1, 2, 3, 7] rfl ?_
  refine AWPD.region tabOK rfl ?_
  refine hK4 _ _ ?_
  clear hK4
  first | refine AWPD.condP rfl (fun h0 => ?_) (fun h0 => ?_) | refine AWPD.condN rfl (fun h0 => ?_) (fun h0 => ?_) | refine AWPD.condAP rfl (fun h0 => ?_) (fun h0 => ?_) | refine AWPD.condOP rfl (fun h0 => ?_) (fun h0 => ?_) | refine AWPD.condONN rfl (fun h0 => ?_) (fun h0 => ?_) | refine AWPD.condOPN rfl (fun h0 => ?_) (fun h0 => ?_) | refine AWPD.condA rfl (fun h0 => ?_) (fun h0 => ?_) | refine AWPD.condO rfl (fun h0 => ?_) (fun h0 => ?_) | refine AWPD.cond rfl (fun h0 => ?_) (fun h0 => ?_)
  · try dsimp only [Ty.T] at h0
    try simp only [castL_self] at h0
    try simp only [Int.toNat_natCast] at h0
    try simp only [Int.toNat_zero] at h0
    exact absurd h0 (by decide)
  · try dsimp only [Ty.T] at h0
    try simp only [castL_self] at h0
    try simp only [Int.toNat_natCast] at h0
    try simp only [Int.toNat_zero] at h0
    refine AWPD.skip ?_
    refine hK3 _ _ ?_
    clear hK3
    refine AWPD.seq fun K5 hK5 => ?_
    -- region 4
    refine AWPD.keep [1, 2, 3] rfl ?_
    refine AWPD.region tabOK rfl ?_
    repeat refine And.intro (by first | exact fun h => h | exact fun _ => rfl | (intro h; rw [h]; rfl) | omega | ((try dsimp only [Ty.T]); (try simp only [castL_self]); (try simp only [Int.toNat_natCast]); (try simp only [Int.toNat_zero]); (try simp only [true_and]); omega) | (intros; (try dsimp only [Ty.T]); (try simp only [castL_self]); (try simp only [Int.toNat_natCast]); (try simp only [Int.toNat_zero]); (try simp only [true_and]); omega) | ((try dsimp only [Ty.T, Ty.size]); (try simp only [castL_self, Int.toNat_natCast, Int.toNat_zero, true_and, List.length_append, List.length_set, List.length_cons, List.length_nil, Nat.zero_add, Nat.mul_one]); omega) | ((try dsimp only [Ty.T, Ty.size]); (try simp only [castL_self, Int.toNat_natCast, Int.toNat_zero, Int.toNat_one, true_and, List.length_append, List.length_set, List.length_drop, List.length_take, List.length_replicate, List.length_cons, List.length_nil, Nat.zero_add, Nat.mul_one]); omega) | decide | (intros; simp_all; done) | (intros; simp_all; omega)) ?_
    refine Exists.intro _ (Exists.intro _ (And.intro (StepD.callG tabG_stays rfl hG0 (holds_fn _ _ _ _ _ _) rfl rfl rfl) (And.intro rfl (And.intro trivial ?_))))
    refine hK5 _ _ ?_
    clear hK5
    refine AWPD.seq fun K6 hK6 => ?_
    -- region 5
    refine AWPD.keep [1, 2, 3, 8, 10] rfl ?_
    refine AWPD.region tabOK rfl ?_
    repeat refine And.intro (by first | exact fun h => h | exact fun _ => rfl | (intro h; rw [h]; rfl) | omega | ((try dsimp only [Ty.T]); (try simp only [castL_self]); (try simp only [Int.toNat_natCast]); (try simp only [Int.toNat_zero]); (try simp only [true_and]); omega) | (intros; (try dsimp only [Ty.T]); (try simp only [castL_self]); (try simp only [Int.toNat_natCast]); (try simp only [Int.toNat_zero]); (try simp only [true_and]); omega) | ((try dsimp only [Ty.T, Ty.size]); (try simp only [castL_self, Int.toNat_natCast, Int.toNat_zero, true_and, List.length_append, List.length_set, List.length_cons, List.length_nil, Nat.zero_add, Nat.mul_one]); omega) | ((try dsimp only [Ty.T, Ty.size]); (try simp only [castL_self, Int.toNat_natCast, Int.toNat_zero, Int.toNat_one, true_and, List.length_append, List.length_set, List.length_drop, List.length_take, List.length_replicate, List.length_cons, List.length_nil, Nat.zero_add, Nat.mul_one]); omega) | decide | (intros; simp_all; done) | (intros; simp_all; omega)) ?_
    refine Exists.intro _ (Exists.intro _ (And.intro (StepD.call (quiet_fn _ _ _ _ _ _) rfl rfl rfl) (And.intro rfl (And.intro trivial ?_))))
    refine hK6 _ _ ?_
    clear hK6
    refine AWPD.seq fun K7 hK7 => ?_
    refine AWPD.seq fun K8 hK8 => ?_
    -- region 6
    refine AWPD.keep [8, 10, 11, 13] rfl ?_
    refine AWPD.region tabOK rfl ?_
    repeat refine And.intro (by first | exact fun h => h | exact fun _ => rfl | (intro h; rw [h]; rfl) | omega | ((try dsimp only [Ty.T]); (try simp only [castL_self]); (try simp only [Int.toNat_natCast]); (try simp only [Int.toNat_zero]); (try simp only [true_and]); omega) | (intros; (try dsimp only [Ty.T]); (try simp only [castL_self]); (try simp only [Int.toNat_natCast]); (try simp only [Int.toNat_zero]); (try simp only [true_and]); omega) | ((try dsimp only [Ty.T, Ty.size]); (try simp only [castL_self, Int.toNat_natCast, Int.toNat_zero, true_and, List.length_append, List.length_set, List.length_cons, List.length_nil, Nat.zero_add, Nat.mul_one]); omega) | ((try dsimp only [Ty.T, Ty.size]); (try simp only [castL_self, Int.toNat_natCast, Int.toNat_zero, Int.toNat_one, true_and, List.length_append, List.length_set, List.length_drop, List.length_take, List.length_replicate, List.length_cons, List.length_nil, Nat.zero_add, Nat.mul_one]); omega) | decide | (intros; simp_all; done) | (intros; simp_all; omega)) ?_
    refine hK8 _ _ ?_
    clear hK8
    first | refine AWPD.cond rfl (fun h1 => ?_) (fun h1 => ?_)
    · try dsimp only [Ty.T] at h1
      try simp only [castL_self] at h1
      try simp only [Int.toNat_natCast] at h1
      try simp only [Int.toNat_zero] at h1
      try simp only [Bool.cond_true_left, Bool.cond_false_right, Bool.cond_true_right, Bool.cond_false_left, Bool.or_eq_true, Bool.and_eq_true, decide_eq_true_eq, Bool.or_eq_false_iff, Bool.and_eq_false_iff, decide_eq_false_iff_not, Bool.not_eq_true', Bool.not_eq_false', Bool.not_eq_eq_eq_not, Bool.not_true, Bool.not_false] at h1
      refine AWPD.seq fun K9 hK9 => ?_
      -- region 7
      refine AWPD.keep [10, 13] rfl ?_
      refine AWPD.region tabOK rfl ?_
      repeat refine And.intro (by first | exact fun h => h | exact fun _ => rfl | (intro h; rw [h]; rfl) | omega | ((try dsimp only [Ty.T]); (try simp only [castL_self]); (try simp only [Int.toNat_natCast]); (try simp only [Int.toNat_zero]); (try simp only [true_and]); omega) | (intros; (try dsimp only [Ty.T]); (try simp only [castL_self]); (try simp only [Int.toNat_natCast]); (try simp only [Int.toNat_zero]); (try simp only [true_and]); omega) | ((try dsimp only [Ty.T, Ty.size]); (try simp only [castL_self, Int.toNat_natCast, Int.toNat_zero, true_and, List.length_append, List.length_set, List.length_cons, List.length_nil, Nat.zero_add, Nat.mul_one]); omega) | ((try dsimp only [Ty.T, Ty.size]); (try simp only [castL_self, Int.toNat_natCast, Int.toNat_zero, Int.toNat_one, true_and, List.length_append, List.length_set, List.length_drop, List.length_take, List.length_replicate, List.length_cons, List.length_nil, Nat.zero_add, Nat.mul_one]); omega) | decide | (intros; simp_all; done) | (intros; simp_all; omega)) ?_
      refine hK9 _ _ ?_
      clear hK9
      refine AWPD.ret (And.intro (.inl rfl) ?_)
      -- result 0
      refine RetD.one ?_
      refine fitB rfl ?_
      have hz : chkE P A N S f part ≠ 0 := by omega
      simp [hz]
    · try dsimp only [Ty.T] at h1
      try simp only [castL_self] at h1
      try simp only [Int.toNat_natCast] at h1
      try simp only [Int.toNat_zero] at h1
      try simp only [Bool.cond_true_left, Bool.cond_false_right, Bool.cond_true_right, Bool.cond_false_left, Bool.or_eq_true, Bool.and_eq_true, decide_eq_true_eq, Bool.or_eq_false_iff, Bool.and_eq_false_iff, decide_eq_false_iff_not, Bool.not_eq_true', Bool.not_eq_false', Bool.not_eq_eq_eq_not, Bool.not_true, Bool.not_false] at h1
      have he : chkE P A N S f part = 0 := by omega
      have g := chk_good he
      refine AWPD.skip ?_
      refine hK7 _ _ ?_
      clear hK7
      refine AWPD.seq fun K10 hK10 => ?_
      -- region 8
      refine AWPD.keep [8, 11] rfl ?_
      refine AWPD.region tabOK rfl ?_
      refine hK10 _ _ ?_
      clear hK10
      refine AWPD.ret (And.intro (.inl rfl) ?_)
      -- result 1
      refine RetD.one ?_
      refine fitB rfl ?_
      have e1 : quietV P A N S f part = quietB N A f part S := by unfold quietV; rw [if_pos he]
      have e2 : holdsB P A N S f part = quietB N A f part S := by
        cases hb : holdsB P A N S f part with
        | true => exact (g.holds_quiet he (holds_yes he hb).2).symm
        | false =>
          obtain ⟨a, b, _, hab, hbn, hbad⟩ := holds_no he hb
          cases hq : quietB N A f part S with
          | false => rfl
          | true => exact absurd hbad (g.quiet_holds he hq hab hbn)
      rw [e1, e2]
      simp
end Go.Proofs.YtndoigkmdcgjfaaDoor
