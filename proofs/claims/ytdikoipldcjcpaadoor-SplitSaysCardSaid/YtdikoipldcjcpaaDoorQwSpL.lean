/-
  The walks of the laws of shares, and of what they ask. Laid by a program of mine out of the operations, with the loops and results told by hand.
-/
import Derived.Test.YtdikoipldcjcpaaDoorQwSpM
namespace Go.Proofs.YtdikoipldcjcpaaDoor
open Go Go.Qw
set_option maxRecDepth 10000
set_option linter.unusedSimpArgs false
set_option linter.unusedVariables false
set_option linter.unusedSectionVars false

theorem same_shares_fn (a b : List Sh) (ha : a.length ≤ 4096) : LiftsD Tryd.prog 20 [.sl .two a, .sl .two b] (.b (decide (a = b))) := by
  refine LiftsD.of_body 26 [.tmp 4] Tryd.func20 rfl Tryd.ntmps20 (by kernel_rfl) rfl rfl fun w0 X0 => ?_
  refine AWPD.seq fun K1 hK1 => ?_
  -- region 0
  refine AWPD.keep [0, 1] rfl ?_
  refine AWPD.region tabOK rfl ?_
  refine hK1 _ _ ?_
  clear hK1
  refine AWPD.seq fun K2 hK2 => ?_
  refine AWPD.seq fun K3 hK3 => ?_
  -- region 1
  refine AWPD.keep [0, 1] rfl ?_
  refine AWPD.region tabOK rfl ?_
  refine hK3 _ _ ?_
  clear hK3
  first | refine AWPD.condP rfl (fun h0 => ?_) (fun h0 => ?_) | refine AWPD.condN rfl (fun h0 => ?_) (fun h0 => ?_) | refine AWPD.condAP rfl (fun h0 => ?_) (fun h0 => ?_) | refine AWPD.condOP rfl (fun h0 => ?_) (fun h0 => ?_) | refine AWPD.condONN rfl (fun h0 => ?_) (fun h0 => ?_) | refine AWPD.condOPN rfl (fun h0 => ?_) (fun h0 => ?_) | refine AWPD.condA rfl (fun h0 => ?_) (fun h0 => ?_) | refine AWPD.condO rfl (fun h0 => ?_) (fun h0 => ?_) | refine AWPD.cond rfl (fun h0 => ?_) (fun h0 => ?_)
  · try dsimp only [Ty.T] at h0
    try simp only [castL_self] at h0
    try simp only [Int.toNat_natCast] at h0
    try simp only [Int.toNat_zero] at h0
    refine AWPD.seq fun K4 hK4 => ?_
    -- region 2
    refine AWPD.keep [] rfl ?_
    refine AWPD.region tabOK rfl ?_
    refine hK4 _ _ ?_
    clear hK4
    refine AWPD.ret (And.intro (.inl rfl) ?_)
    -- result 0
    refine RetD.one ?_
    exact fitB rfl (decide_eq_false (fun e => h0 (by rw [e]))).symm
  · try dsimp only [Ty.T] at h0
    try simp only [castL_self] at h0
    try simp only [Int.toNat_natCast] at h0
    try simp only [Int.toNat_zero] at h0
    refine AWPD.skip ?_
    refine hK2 _ _ ?_
    clear hK2
    refine AWPD.seq fun K5 hK5 => ?_
    refine AWPD.seq fun K6 hK6 => ?_
    -- region 3
    refine AWPD.keep [0, 1] rfl ?_
    refine AWPD.region tabOK rfl ?_
    refine hK6 _ _ ?_
    clear hK6
    refine AWPD.block ?_
    -- LOOP 0 live [0, 1, 5] changed [5]
    refine AWPD.loopK (σ := Nat) [0, 1] (fun i base => (5, .i (i : Int)) :: base) (fun _ => []) (fun n i => n + i = a.length ∧ ∀ q, q < i → a.getD q (0, 0) = b.getD q (0, 0)) (a.length) 0 [] rfl rfl (⟨by omega, by intro q hq; omega⟩) (by decide) trivial (by repeat' first | exact True.intro | exact rfl | exact ⟨rfl, rfl⟩ | refine And.intro ?_ ?_) fun n0 i hI0 => ?_
    obtain ⟨hn0, hv0⟩ := hI0
    refine AWPD.seq fun K7 hK7 => ?_
    refine AWPD.seq fun K8 hK8 => ?_
    -- region 4
    refine AWPD.keep [0, 1, 5] rfl ?_
    refine AWPD.region tabOK rfl ?_
    refine hK8 _ _ ?_
    clear hK8
    first | refine AWPD.condP rfl (fun h1 => ?_) (fun h1 => ?_) | refine AWPD.condN rfl (fun h1 => ?_) (fun h1 => ?_) | refine AWPD.condAP rfl (fun h1 => ?_) (fun h1 => ?_) | refine AWPD.condOP rfl (fun h1 => ?_) (fun h1 => ?_) | refine AWPD.condONN rfl (fun h1 => ?_) (fun h1 => ?_) | refine AWPD.condOPN rfl (fun h1 => ?_) (fun h1 => ?_) | refine AWPD.condA rfl (fun h1 => ?_) (fun h1 => ?_) | refine AWPD.condO rfl (fun h1 => ?_) (fun h1 => ?_) | refine AWPD.cond rfl (fun h1 => ?_) (fun h1 => ?_)
    · try dsimp only [Ty.T] at h1
      try simp only [castL_self] at h1
      try simp only [Int.toNat_natCast] at h1
      try simp only [Int.toNat_zero] at h1
      refine AWPD.skip ?_
      refine hK7 _ _ ?_
      clear hK7
      refine AWPD.seq fun K9 hK9 => ?_
      refine AWPD.block ?_
      refine AWPD.seq fun K10 hK10 => ?_
      -- region 6
      refine AWPD.keep [0, 1, 5] rfl ?_
      refine AWPD.draw tabOK [] rfl (by kernel_rfl) ?_
      repeat refine And.intro (by first | exact fun h => h | exact fun _ => rfl | (intro h; rw [h]; rfl) | omega | (intros; (try dsimp only [Ty.T, Ty.size]); (try simp only [castL_self, Int.toNat_natCast, Int.toNat_zero, Int.toNat_one, true_and, List.length_append, List.length_set, List.length_drop, List.length_take, List.length_replicate, List.length_cons, List.length_nil, Nat.zero_add, Nat.mul_one]); omega) | decide | (intros; simp_all; done) | (intros; simp_all; omega)) ?_
      refine hK10 _ _ ?_
      clear hK10
      first | refine AWPD.condP rfl (fun h2 => ?_) (fun h2 => ?_) | refine AWPD.condN rfl (fun h2 => ?_) (fun h2 => ?_) | refine AWPD.condAP rfl (fun h2 => ?_) (fun h2 => ?_) | refine AWPD.condOP rfl (fun h2 => ?_) (fun h2 => ?_) | refine AWPD.condONN rfl (fun h2 => ?_) (fun h2 => ?_) | refine AWPD.condOPN rfl (fun h2 => ?_) (fun h2 => ?_) | refine AWPD.condA rfl (fun h2 => ?_) (fun h2 => ?_) | refine AWPD.condO rfl (fun h2 => ?_) (fun h2 => ?_) | refine AWPD.cond rfl (fun h2 => ?_) (fun h2 => ?_)
      · try dsimp only [Ty.T] at h2
        try simp only [castL_self] at h2
        try simp only [Int.toNat_natCast] at h2
        try simp only [Int.toNat_zero] at h2
        refine AWPD.seq fun K11 hK11 => ?_
        -- region 7
        refine AWPD.keep [] rfl ?_
        refine AWPD.region tabOK rfl ?_
        refine hK11 _ _ ?_
        clear hK11
        refine AWPD.ret (And.intro (.inl rfl) ?_)
        -- result 1
        refine RetD.one ?_
        exact fitB rfl (decide_eq_false (fun e => h2 (by rw [e]))).symm
      · try dsimp only [Ty.T] at h2
        try simp only [castL_self] at h2
        try simp only [Int.toNat_natCast] at h2
        try simp only [Int.toNat_zero] at h2
        refine AWPD.skip ?_
        refine hK9 _ _ ?_
        clear hK9
        -- region 5
        refine AWPD.keep [0, 1, 5] rfl ?_
        refine AWPD.region tabOK rfl ?_
        repeat refine And.intro (by first | exact fun h => h | exact fun _ => rfl | (intro h; rw [h]; rfl) | omega | (intros; (try dsimp only [Ty.T, Ty.size]); (try simp only [castL_self, Int.toNat_natCast, Int.toNat_zero, Int.toNat_one, true_and, List.length_append, List.length_set, List.length_drop, List.length_take, List.length_replicate, List.length_cons, List.length_nil, Nat.zero_add, Nat.mul_one]); omega) | decide | (intros; simp_all; done) | (intros; simp_all; omega)) ?_
        refine ⟨n0 - 1, i + 1, [], by omega, ⟨by omega, fun q hq => by
            rcases Nat.lt_or_ge q i with h | h
            · exact hv0 q h
            · rw [show q = i by omega]
              have h3 : ¬¬_ := h2
              have h3 := Decidable.not_not.1 h3
              simp only [List.cons.injEq, and_true] at h3
              exact Prod.ext h3.1 h3.2⟩, ⟨by decide, rfl⟩, trivial, ?_⟩
        repeat' first | exact True.intro | exact rfl | exact ⟨rfl, rfl⟩ | refine And.intro ?_ ?_
    · try dsimp only [Ty.T] at h1
      try simp only [castL_self] at h1
      try simp only [Int.toNat_natCast] at h1
      try simp only [Int.toNat_zero] at h1
      refine AWPD.exit ?_
      refine hK5 _ _ ?_
      clear hK5
      refine AWPD.seq fun K12 hK12 => ?_
      -- region 8
      refine AWPD.keep [] rfl ?_
      refine AWPD.region tabOK rfl ?_
      refine hK12 _ _ ?_
      clear hK12
      refine AWPD.ret (And.intro (.inl rfl) ?_)
      -- result 2
      refine RetD.one ?_
      exact fitB rfl (decide_eq_true (eq_of_getD (by omega) (fun q hq => hv0 q (by omega)))).symm
theorem splitFact_fn  : LiftsD Tryd.prog 26 [] (.b true) := by
  refine LiftsD.of_body 34 [.tmp 0] Tryd.func26 rfl Tryd.ntmps26 (by kernel_rfl) rfl rfl fun w0 X0 => ?_
  refine AWPD.seq fun K1 hK1 => ?_
  -- region 0
  refine AWPD.keep [] rfl ?_
  refine AWPD.region tabOK rfl ?_
  refine hK1 _ _ ?_
  clear hK1
  refine AWPD.seq fun K2 hK2 => ?_
  -- region 1
  refine AWPD.keep [] rfl ?_
  refine AWPD.region tabOK rfl ?_
  refine Exists.intro _ (Exists.intro _ (And.intro (StepD.call (deal_fn _ _ _ _) rfl rfl rfl) (And.intro rfl (And.intro trivial ?_))))
  refine hK2 _ _ ?_
  clear hK2
  refine AWPD.seq fun K3 hK3 => ?_
  -- region 2
  refine AWPD.keep [1, 2] rfl ?_
  refine AWPD.region tabOK rfl ?_
  refine Exists.intro _ (Exists.intro _ (And.intro (StepD.call (join_fn _ _) rfl rfl rfl) (And.intro rfl (And.intro trivial ?_))))
  refine hK3 _ _ ?_
  clear hK3
  refine AWPD.seq fun K4 hK4 => ?_
  -- region 3
  refine AWPD.keep [1, 2, 3, 4] rfl ?_
  refine AWPD.region tabOK rfl ?_
  repeat refine And.intro (by first | exact fun h => h | exact fun _ => rfl | (intro h; rw [h]; rfl) | omega | (intros; (try dsimp only [Ty.T, Ty.size]); (try simp only [castL_self, Int.toNat_natCast, Int.toNat_zero, Int.toNat_one, true_and, List.length_append, List.length_set, List.length_drop, List.length_take, List.length_replicate, List.length_cons, List.length_nil, Nat.zero_add, Nat.mul_one]); omega) | decide | (intros; simp_all; done) | (intros; simp_all; omega)) ?_
  refine Exists.intro _ (Exists.intro _ (And.intro (fun hg => StepD.call (same_shares_fn _ _ (by decide +kernel)) rfl rfl rfl) (And.intro (fun hf => rfl) (And.intro rfl (And.intro trivial ?_)))))
  repeat refine And.intro (by first | exact fun h => h | exact fun _ => rfl | (intro h; rw [h]; rfl) | omega | (intros; (try dsimp only [Ty.T, Ty.size]); (try simp only [castL_self, Int.toNat_natCast, Int.toNat_zero, Int.toNat_one, true_and, List.length_append, List.length_set, List.length_drop, List.length_take, List.length_replicate, List.length_cons, List.length_nil, Nat.zero_add, Nat.mul_one]); omega) | decide | (intros; simp_all; done) | (intros; simp_all; omega)) ?_
  refine hK4 _ _ ?_
  clear hK4
  refine AWPD.ret (And.intro (.inl rfl) ?_)
  -- result 0
  refine RetD.one ?_
  exact fitB rfl (by decide +kernel)

theorem take_good {p : Int} {l : List Sh} (g : GoodS p l) (hf : fieldE p = 0) {n : Nat} (h0 : 0 < n) (hn : n ≤ l.length) : sharesE p (l.take n) = 0 := by
  have hl : (l.take n).length = n := by rw [List.length_take]; omega
  have h12 := g.few
  refine sharesE_zero hf (by omega) (by omega) (fun s hs => ?_) ?_
  · obtain ⟨i, hi, rfl⟩ := List.mem_iff_getElem.1 hs
    have hil : i < l.length := by omega
    have a := g.at_ i hil
    have b := g.is_ i hil
    simp only [List.getD, List.getElem?_eq_getElem hil, Option.getD_some] at a b
    rw [List.getElem_take]
    exact ⟨a, b⟩
  · rw [List.map_take]
    exact g.apart.sublist (List.take_sublist _ _)
def otherS (l : List Sh) (n : Nat) (s : Sh) : List Sh := [s] ++ (l.take n).drop 1
theorem other_good {p : Int} {l : List Sh} (g : GoodS p l) (hf : fieldE p = 0) {n j : Nat} (h0 : 0 < n) (hn : n ≤ l.length) (hj : n + j < l.length) : sharesE p (otherS l n (l.getD (n + j) (0, 0))) = 0 := by
  have h12 := g.few
  have hlen : (otherS l n (l.getD (n + j) (0, 0))).length = n := by simp [otherS]; omega
  refine sharesE_zero hf (by omega) (by omega) (fun s hs => ?_) ?_
  · unfold otherS at hs
    have hm : s ∈ l := by
      rcases List.mem_append.1 hs with h | h
      · rw [List.mem_singleton.1 h]; exact getD_mem hj _
      · exact List.mem_of_mem_take (List.mem_of_mem_drop h)
    obtain ⟨i, hi, rfl⟩ := List.mem_iff_getElem.1 hm
    have a := g.at_ i hi
    have b := g.is_ i hi
    simp only [List.getD, List.getElem?_eq_getElem hi, Option.getD_some] at a b
    exact ⟨a, b⟩
  · unfold otherS
    rw [List.map_append, List.nodup_append]
    refine ⟨by simp, ?_, ?_⟩
    · rw [List.map_drop, List.map_take]
      exact (g.apart.sublist (List.take_sublist _ _)).sublist (List.drop_sublist _ _)
    · intro a ha b hb e
      subst e
      simp only [List.map_cons, List.map_nil, List.mem_singleton] at ha
      subst ha
      obtain ⟨s, hs, he⟩ := List.mem_map.1 hb
      obtain ⟨i, hi, rfl⟩ := List.mem_iff_getElem.1 (List.mem_of_mem_drop hs)
      rw [List.length_take] at hi
      rw [List.getElem_take] at he
      have := (List.getElem_inj (i := i) (j := n + j) (h₀ := by rw [List.length_map]; omega) (h₁ := by rw [List.length_map]; exact hj) g.apart).1 (by
        simp only [List.getElem_map]
        rw [he]
        simp [List.getD, hj])
      omega
/-- With how many polynomials each secret goes. -/
def powI (p : Int) : Nat → Int
  | 0 => 1
  | k + 1 => powI p k * p
theorem powI_pos {p : Int} (hp : 2 ≤ p) : ∀ k, 1 ≤ powI p k
  | 0 => by simp [powI]
  | k + 1 => by
    have := powI_pos hp k
    have h2 := Int.mul_le_mul this hp (by decide) (by omega)
    rw [powI]; omega
theorem powI_mono {p : Int} (hp : 2 ≤ p) (k : Nat) : powI p k ≤ powI p (k + 1) := by
  have h1 := powI_pos hp k
  have h2 := Int.mul_le_mul (Int.le_refl (powI p k)) (show 1 ≤ p by omega) (by decide) (by omega)
  rw [powI]; omega
theorem powI_le {p : Int} (hp : 2 ≤ p) {i j : Nat} (h : i ≤ j) : powI p i ≤ powI p j := by
  induction h with
  | refl => exact Int.le_refl _
  | step _ ih => exact Int.le_trans ih (powI_mono hp _)
theorem powI_step {p : Int} (hp : 2 ≤ p ∧ p ≤ 31) {k : Nat} (h : powI p k ≤ 1000000000000) : 0 ≤ powI p k * p ∧ powI p k * p ≤ 31000000000000 := by
  have h1 := powI_pos hp.1 k
  have h2 := Int.mul_le_mul h hp.2 (by omega) (by decide)
  have h3 := Int.mul_nonneg (show 0 ≤ powI p k by omega) (show 0 ≤ p by omega)
  omega
def sameS (p : Int) (l : List Sh) (n : Nat) : Prop := ∀ j, n + j < l.length → joinV p (otherS l n (l.getD (n + j) (0, 0))) = joinV p (l.take n)
instance (p : Int) (l : List Sh) (n : Nat) : Decidable (sameS p l n) := by
  have : sameS p l n ↔ ∀ j ∈ List.range (l.length - n), joinV p (otherS l n (l.getD (n + j) (0, 0))) = joinV p (l.take n) :=
    ⟨fun h j hj => h j (by rw [List.mem_range] at hj; omega), fun h j hj => h j (List.mem_range.2 (by omega))⟩
  exact decidable_of_iff _ this.symm
def leftE (p : Int) (l : List Sh) (need : Int) : Int :=
  if sharesE p l ≠ 0 then sharesE p l else if ¬(1 ≤ need ∧ need ≤ 12) then 1 else if (l.length : Int) < need ∧ 1000000000000 < powI p (need - 1 - l.length).toNat then 4 else 0
def leftV (p : Int) (l : List Sh) (need : Int) : List Int :=
  if leftE p l need ≠ 0 then [] else if (l.length : Int) < need then List.replicate p.toNat (powI p (need - 1 - l.length).toNat) else if sameS p l need.toNat then (List.replicate p.toNat 0).set (joinV p (l.take need.toNat)).toNat 1 else List.replicate p.toNat 0
def fillP (p : Int) (c : Int) (i : Nat) : List Int := List.replicate i c ++ List.replicate (p.toNat - i) 0
theorem fillP_zero (p c : Int) : List.replicate p.toNat (0 : Int) = fillP p c 0 := by simp [fillP]
theorem fillP_step {p c : Int} {i : Nat} (h : i < p.toNat) : (fillP p c i).set i c = fillP p c (i + 1) := by
  unfold fillP
  rw [List.set_append_right _ _ (by simp), List.length_replicate, Nat.sub_self, show p.toNat - i = (p.toNat - (i + 1)) + 1 by omega, List.replicate_succ, List.set_cons_zero, List.replicate_succ', List.append_assoc]
  rfl
theorem fillP_len {p c : Int} {i : Nat} (h : i ≤ p.toNat) : (fillP p c i).length = p.toNat := by simp [fillP]; omega
theorem fillP_all (p c : Int) : fillP p c p.toNat = List.replicate p.toNat c := by simp [fillP]
theorem joinV_in {p : Int} {l : List Sh} (hp : 2 ≤ p) : 0 ≤ joinV p l ∧ joinV p l ≤ p - 1 := by
  unfold joinV
  split
  · exact sumV_in hp _
  · omega
theorem left_few {p : Int} {l : List Sh} {need : Int} (hs : sharesE p l = 0) (hn : 1 ≤ need ∧ need ≤ 12) (hl : (l.length : Int) < need) (hp : powI p (need - 1 - l.length).toNat ≤ 1000000000000) : leftE p l need = 0 ∧ leftV p l need = List.replicate p.toNat (powI p (need - 1 - l.length).toNat) := by
  have h : leftE p l need = 0 := by unfold leftE; rw [if_neg (by omega), if_neg (fun h => h hn), if_neg (by omega)]
  exact ⟨h, by unfold leftV; rw [if_neg (by omega), if_pos hl]⟩
theorem left_many {p : Int} {l : List Sh} {need : Int} (hs : sharesE p l = 0) (hn : 1 ≤ need ∧ need ≤ 12) (hl : ¬(l.length : Int) < need) : leftE p l need = 0 ∧ leftV p l need = if sameS p l need.toNat then (List.replicate p.toNat 0).set (joinV p (l.take need.toNat)).toNat 1 else List.replicate p.toNat 0 := by
  have h : leftE p l need = 0 := by unfold leftE; rw [if_neg (by omega), if_neg (fun h => h hn), if_neg (by omega)]
  exact ⟨h, by unfold leftV; rw [if_neg (by omega), if_neg hl]⟩
theorem drop_getD {α : Type} {l : List α} {n j : Nat} {d : α} : (l.drop n).getD j d = l.getD (n + j) d := by simp [List.getD]

theorem left_fn (p : Int) (l : List Sh) (need : Int) : LiftsD Tryd.prog 25 [.i p, .sl .two l, .i need] (.tup [.sl .int (leftV p l need), .er 57 (leftE p l need)]) := by
  have hr : (List.replicate p.toNat (0 : Int)).length = p.toNat := List.length_replicate
  refine LiftsD.of_body 107 [.tmp 6, .tmp 7] Tryd.func25 rfl Tryd.ntmps25 (by kernel_rfl) rfl rfl fun w0 X0 => ?_
  refine AWPD.seq fun K1 hK1 => ?_
  -- region 0
  refine AWPD.keep [0, 1, 2] rfl ?_
  refine AWPD.region (tabOK.own [84]) rfl ?_
  refine hK1 _ _ ?_
  clear hK1
  refine AWPD.seq fun K2 hK2 => ?_
  refine AWPD.seq fun K3 hK3 => ?_
  -- region 1
  refine AWPD.keep [0, 1, 2] rfl ?_
  refine AWPD.region (tabOK.own [84]) rfl ?_
  refine Exists.intro _ (Exists.intro _ (And.intro (StepD.call (shares_fn _ _) rfl rfl rfl) (And.intro rfl (And.intro trivial ?_))))
  refine hK3 _ _ ?_
  clear hK3
  refine AWPD.seq fun K4 hK4 => ?_
  -- region 2
  refine AWPD.keep [0, 1, 2, 8] rfl ?_
  refine AWPD.region (tabOK.own [84]) rfl ?_
  refine hK4 _ _ ?_
  clear hK4
  first | refine AWPD.condP rfl (fun h0 => ?_) (fun h0 => ?_) | refine AWPD.condN rfl (fun h0 => ?_) (fun h0 => ?_) | refine AWPD.condAP rfl (fun h0 => ?_) (fun h0 => ?_) | refine AWPD.condOP rfl (fun h0 => ?_) (fun h0 => ?_) | refine AWPD.condONN rfl (fun h0 => ?_) (fun h0 => ?_) | refine AWPD.condOPN rfl (fun h0 => ?_) (fun h0 => ?_) | refine AWPD.condA rfl (fun h0 => ?_) (fun h0 => ?_) | refine AWPD.condO rfl (fun h0 => ?_) (fun h0 => ?_) | refine AWPD.cond rfl (fun h0 => ?_) (fun h0 => ?_)
  · try dsimp only [Ty.T] at h0
    try simp only [castL_self] at h0
    try simp only [Int.toNat_natCast] at h0
    try simp only [Int.toNat_zero] at h0
    refine AWPD.seq fun K5 hK5 => ?_
    -- region 3
    refine AWPD.keep [8] rfl ?_
    refine AWPD.region (tabOK.own [84]) rfl ?_
    refine hK5 _ _ ?_
    clear hK5
    refine AWPD.ret (And.intro (.inl rfl) ?_)
    -- result 0
    exact ⟨fitN rfl (by unfold leftV leftE; rw [if_pos h0, if_pos h0]) (by decide), fitE rfl (by unfold leftE; rw [if_pos h0])⟩
  · try dsimp only [Ty.T] at h0
    try simp only [castL_self] at h0
    try simp only [Int.toNat_natCast] at h0
    try simp only [Int.toNat_zero] at h0
    have hs : sharesE p l = 0 := by simpa using h0
    have g := shares_good hs
    have gp2 := g.p2
    have gp3 := g.p31
    have gf := g.few
    have hfe : fieldE p = 0 := by
      unfold sharesE at hs
      split at hs
      · rename_i h; exact absurd hs h
      · omega
    refine AWPD.skip ?_
    refine hK2 _ _ ?_
    clear hK2
    refine AWPD.seq fun K6 hK6 => ?_
    refine AWPD.seq fun K7 hK7 => ?_
    -- region 4
    refine AWPD.keep [0, 1, 2] rfl ?_
    refine AWPD.region (tabOK.own [84]) rfl ?_
    refine Exists.intro _ (Exists.intro _ (And.intro (StepD.call (within_fn _ _ _) rfl rfl rfl) (And.intro rfl (And.intro trivial ?_))))
    refine hK7 _ _ ?_
    clear hK7
    first | refine AWPD.condP rfl (fun h1 => ?_) (fun h1 => ?_) | refine AWPD.condN rfl (fun h1 => ?_) (fun h1 => ?_) | refine AWPD.condAP rfl (fun h1 => ?_) (fun h1 => ?_) | refine AWPD.condOP rfl (fun h1 => ?_) (fun h1 => ?_) | refine AWPD.condONN rfl (fun h1 => ?_) (fun h1 => ?_) | refine AWPD.condOPN rfl (fun h1 => ?_) (fun h1 => ?_) | refine AWPD.condA rfl (fun h1 => ?_) (fun h1 => ?_) | refine AWPD.condO rfl (fun h1 => ?_) (fun h1 => ?_) | refine AWPD.cond rfl (fun h1 => ?_) (fun h1 => ?_)
    · try dsimp only [Ty.T] at h1
      try simp only [castL_self] at h1
      try simp only [Int.toNat_natCast] at h1
      try simp only [Int.toNat_zero] at h1
      refine AWPD.seq fun K8 hK8 => ?_
      -- region 5
      refine AWPD.keep [] rfl ?_
      refine AWPD.region (tabOK.own [84]) rfl ?_
      repeat refine And.intro (by first | exact fun h => h | exact fun _ => rfl | (intro h; rw [h]; rfl) | omega | (intros; (try dsimp only [Ty.T, Ty.size]); (try simp only [castL_self, Int.toNat_natCast, Int.toNat_zero, Int.toNat_one, true_and, List.length_append, List.length_set, List.length_drop, List.length_take, List.length_replicate, List.length_cons, List.length_nil, Nat.zero_add, Nat.mul_one]); omega) | decide | (intros; simp_all; done) | (intros; simp_all; omega)) ?_
      refine hK8 _ _ ?_
      clear hK8
      refine AWPD.ret (And.intro (.inl rfl) ?_)
      -- result 1
      have he : leftE p l need = 1 := by unfold leftE; rw [if_neg h0, if_pos h1]
      exact ⟨fitN rfl (by unfold leftV; rw [he]; rfl) (by decide), fitE rfl he.symm⟩
    · try dsimp only [Ty.T] at h1
      try simp only [castL_self] at h1
      try simp only [Int.toNat_natCast] at h1
      try simp only [Int.toNat_zero] at h1
      have hn : 1 ≤ need ∧ need ≤ 12 := by simpa using h1
      refine AWPD.skip ?_
      refine hK6 _ _ ?_
      clear hK6
      refine AWPD.seq fun K9 hK9 => ?_
      -- region 6
      refine AWPD.keep [0, 1, 2] rfl ?_
      refine AWPD.region (tabOK.own [84]) rfl ?_
      repeat refine And.intro (by first | exact fun h => h | exact fun _ => rfl | (intro h; rw [h]; rfl) | omega | (intros; (try dsimp only [Ty.T, Ty.size]); (try simp only [castL_self, Int.toNat_natCast, Int.toNat_zero, Int.toNat_one, true_and, List.length_append, List.length_set, List.length_drop, List.length_take, List.length_replicate, List.length_cons, List.length_nil, Nat.zero_add, Nat.mul_one]); omega) | decide | (intros; simp_all; done) | (intros; simp_all; omega)) ?_
      refine hK9 _ _ ?_
      clear hK9
      refine AWPD.seq fun K10 hK10 => ?_
      refine AWPD.seq fun K11 hK11 => ?_
      -- region 7
      refine AWPD.keep [0, 1, 2, 9] rfl ?_
      refine AWPD.region (tabOK.own [84]) rfl ?_
      refine hK11 _ _ ?_
      clear hK11
      first | refine AWPD.condP rfl (fun h2 => ?_) (fun h2 => ?_) | refine AWPD.condN rfl (fun h2 => ?_) (fun h2 => ?_) | refine AWPD.condAP rfl (fun h2 => ?_) (fun h2 => ?_) | refine AWPD.condOP rfl (fun h2 => ?_) (fun h2 => ?_) | refine AWPD.condONN rfl (fun h2 => ?_) (fun h2 => ?_) | refine AWPD.condOPN rfl (fun h2 => ?_) (fun h2 => ?_) | refine AWPD.condA rfl (fun h2 => ?_) (fun h2 => ?_) | refine AWPD.condO rfl (fun h2 => ?_) (fun h2 => ?_) | refine AWPD.cond rfl (fun h2 => ?_) (fun h2 => ?_)
      · try dsimp only [Ty.T] at h2
        try simp only [castL_self] at h2
        try simp only [Int.toNat_natCast] at h2
        try simp only [Int.toNat_zero] at h2
        refine AWPD.seq fun K12 hK12 => ?_
        -- region 8
        refine AWPD.keep [0, 1, 2, 9] rfl ?_
        refine AWPD.region (tabOK.own [84]) rfl ?_
        refine hK12 _ _ ?_
        clear hK12
        refine AWPD.seq fun K13 hK13 => ?_
        refine AWPD.seq fun K14 hK14 => ?_
        -- region 9
        refine AWPD.keep [0, 1, 2, 9, 10] rfl ?_
        refine AWPD.region (tabOK.own [84]) rfl ?_
        repeat refine And.intro (by first | exact fun h => h | exact fun _ => rfl | (intro h; rw [h]; rfl) | omega | (intros; (try dsimp only [Ty.T, Ty.size]); (try simp only [castL_self, Int.toNat_natCast, Int.toNat_zero, Int.toNat_one, true_and, List.length_append, List.length_set, List.length_drop, List.length_take, List.length_replicate, List.length_cons, List.length_nil, Nat.zero_add, Nat.mul_one]); omega) | decide | (intros; simp_all; done) | (intros; simp_all; omega)) ?_
        refine hK14 _ _ ?_
        clear hK14
        refine AWPD.block ?_
        -- LOOP 0 live [0, 9, 10, 39, 40] changed [10, 40]
        refine AWPD.loopK (σ := Nat) [0, 39] (fun k base => (9, .ob 0) :: (10, .i (powI p k)) :: (40, .i (k : Int)) :: base) (fun k => [.row 3 .int (List.replicate p.toNat 0)]) (fun n k => n + k = (need - 1 - l.length).toNat ∧ powI p k ≤ 1000000000000) ((need - 1 - l.length).toNat) 0 [0] rfl rfl (⟨by omega, (by show (1 : Int) ≤ 1000000000000; decide)⟩) (by decide) ⟨⟨rfl, rfl, rfl⟩, trivial⟩ (by repeat' first | (show (1 : Int) = powI p 0; rfl) | exact True.intro | exact rfl | exact ⟨rfl, rfl⟩ | refine And.intro ?_ ?_) fun n0 k hI0 => ?_
        obtain ⟨hn0, hv0⟩ := hI0
        refine AWPD.seq fun K15 hK15 => ?_
        -- region 10
        refine AWPD.keep [0, 9, 10, 39, 40] rfl ?_
        refine AWPD.region (tabOK.own [84]) rfl ?_
        refine hK15 _ _ ?_
        clear hK15
        refine AWPD.seq fun K16 hK16 => ?_
        first | refine AWPD.condP rfl (fun h3 => ?_) (fun h3 => ?_) | refine AWPD.condN rfl (fun h3 => ?_) (fun h3 => ?_) | refine AWPD.condAP rfl (fun h3 => ?_) (fun h3 => ?_) | refine AWPD.condOP rfl (fun h3 => ?_) (fun h3 => ?_) | refine AWPD.condONN rfl (fun h3 => ?_) (fun h3 => ?_) | refine AWPD.condOPN rfl (fun h3 => ?_) (fun h3 => ?_) | refine AWPD.condA rfl (fun h3 => ?_) (fun h3 => ?_) | refine AWPD.condO rfl (fun h3 => ?_) (fun h3 => ?_) | refine AWPD.cond rfl (fun h3 => ?_) (fun h3 => ?_)
        · try dsimp only [Ty.T] at h3
          try simp only [castL_self] at h3
          try simp only [Int.toNat_natCast] at h3
          try simp only [Int.toNat_zero] at h3
          have hst := powI_step ⟨gp2, gp3⟩ hv0
          refine AWPD.skip ?_
          refine hK16 _ _ ?_
          clear hK16
          refine AWPD.seq fun K17 hK17 => ?_
          refine AWPD.block ?_
          refine AWPD.seq fun K18 hK18 => ?_
          -- region 11
          refine AWPD.keep [0, 9, 10, 39, 40] rfl ?_
          refine AWPD.region (tabOK.own [84]) rfl ?_
          repeat refine And.intro (by first | exact fun h => h | exact fun _ => rfl | (intro h; rw [h]; rfl) | omega | (intros; (try dsimp only [Ty.T, Ty.size]); (try simp only [castL_self, Int.toNat_natCast, Int.toNat_zero, Int.toNat_one, true_and, List.length_append, List.length_set, List.length_drop, List.length_take, List.length_replicate, List.length_cons, List.length_nil, Nat.zero_add, Nat.mul_one]); omega) | decide | (intros; simp_all; done) | (intros; simp_all; omega)) ?_
          refine hK18 _ _ ?_
          clear hK18
          refine AWPD.seq fun K19 hK19 => ?_
          -- region 12
          refine AWPD.keep [0, 9, 10, 39, 40] rfl ?_
          refine AWPD.region (tabOK.own [84]) rfl ?_
          refine hK19 _ _ ?_
          clear hK19
          first | refine AWPD.condP rfl (fun h4 => ?_) (fun h4 => ?_) | refine AWPD.condN rfl (fun h4 => ?_) (fun h4 => ?_) | refine AWPD.condAP rfl (fun h4 => ?_) (fun h4 => ?_) | refine AWPD.condOP rfl (fun h4 => ?_) (fun h4 => ?_) | refine AWPD.condONN rfl (fun h4 => ?_) (fun h4 => ?_) | refine AWPD.condOPN rfl (fun h4 => ?_) (fun h4 => ?_) | refine AWPD.condA rfl (fun h4 => ?_) (fun h4 => ?_) | refine AWPD.condO rfl (fun h4 => ?_) (fun h4 => ?_) | refine AWPD.cond rfl (fun h4 => ?_) (fun h4 => ?_)
          · try dsimp only [Ty.T] at h4
            try simp only [castL_self] at h4
            try simp only [Int.toNat_natCast] at h4
            try simp only [Int.toNat_zero] at h4
            refine AWPD.seq fun K20 hK20 => ?_
            -- region 13
            refine AWPD.keep [] rfl ?_
            refine AWPD.region (tabOK.own [84]) rfl ?_
            repeat refine And.intro (by first | exact fun h => h | exact fun _ => rfl | (intro h; rw [h]; rfl) | omega | (intros; (try dsimp only [Ty.T, Ty.size]); (try simp only [castL_self, Int.toNat_natCast, Int.toNat_zero, Int.toNat_one, true_and, List.length_append, List.length_set, List.length_drop, List.length_take, List.length_replicate, List.length_cons, List.length_nil, Nat.zero_add, Nat.mul_one]); omega) | decide | (intros; simp_all; done) | (intros; simp_all; omega)) ?_
            refine hK20 _ _ ?_
            clear hK20
            refine AWPD.ret (And.intro (.inl rfl) ?_)
            -- result 2
            have hle := powI_le gp2 (show k + 1 ≤ (need - 1 - l.length).toNat by omega)
            have h4 : 1000000000000 < powI p k * p := h4
            have he : leftE p l need = 4 := by unfold leftE; rw [if_neg h0, if_neg (fun h => h hn), if_pos ⟨h2, by rw [powI] at hle; omega⟩]
            exact ⟨fitN rfl (by unfold leftV; rw [he]; rfl) (by decide), fitE rfl he.symm⟩
          · try dsimp only [Ty.T] at h4
            try simp only [castL_self] at h4
            try simp only [Int.toNat_natCast] at h4
            try simp only [Int.toNat_zero] at h4
            refine AWPD.skip ?_
            refine hK17 _ _ ?_
            clear hK17
            -- region 14
            refine AWPD.keep [0, 9, 10, 39, 40] rfl ?_
            refine AWPD.region (tabOK.own [84]) rfl ?_
            repeat refine And.intro (by first | exact fun h => h | exact fun _ => rfl | (intro h; rw [h]; rfl) | omega | (intros; (try dsimp only [Ty.T, Ty.size]); (try simp only [castL_self, Int.toNat_natCast, Int.toNat_zero, Int.toNat_one, true_and, List.length_append, List.length_set, List.length_drop, List.length_take, List.length_replicate, List.length_cons, List.length_nil, Nat.zero_add, Nat.mul_one]); omega) | decide | (intros; simp_all; done) | (intros; simp_all; omega)) ?_
            refine ⟨n0 - 1, k + 1, [0], by omega, ⟨by omega, (by have h : ¬1000000000000 < powI p k * p := h4; rw [powI]; omega)⟩, ⟨by decide, rfl⟩, ⟨⟨rfl, rfl, rfl⟩, trivial⟩, ?_⟩
            repeat' first | (show powI p k * p = powI p (k + 1); rfl) | exact True.intro | exact rfl | exact ⟨rfl, rfl⟩ | refine And.intro ?_ ?_
        · try dsimp only [Ty.T] at h3
          try simp only [castL_self] at h3
          try simp only [Int.toNat_natCast] at h3
          try simp only [Int.toNat_zero] at h3
          refine AWPD.exit ?_
          refine hK13 _ _ ?_
          clear hK13
          refine AWPD.seq fun K21 hK21 => ?_
          refine AWPD.seq fun K22 hK22 => ?_
          -- region 15
          refine AWPD.keep [9, 10] rfl ?_
          refine AWPD.region (tabOK.own [84]) rfl ?_
          refine hK22 _ _ ?_
          clear hK22
          refine AWPD.block ?_
          -- LOOP 1 live [9, 10, 50, 51] changed [51]
          have hke : k = (need - 1 - l.length).toNat := by omega
          have lf := left_few hs hn h2 (by rw [← hke]; exact hv0)
          refine AWPD.loopK (σ := Nat) [10, 50] (fun i base => (9, .ob 0) :: (51, .i (i : Int)) :: base) (fun i => [.row 3 .int (fillP p (powI p k) i)]) (fun n i => n + i = p.toNat) (p.toNat) 0 [0] rfl rfl (by omega) (by decide) ⟨⟨rfl, rfl, fillP_zero _ _⟩, trivial⟩ (by repeat' first | exact True.intro | exact rfl | exact ⟨rfl, rfl⟩ | refine And.intro ?_ ?_) fun n1 i hI1 => ?_
          have hn1 := hI1
          have hfl := fillP_len (p := p) (c := powI p k) (i := i) (by omega)
          refine AWPD.seq fun K23 hK23 => ?_
          -- region 16
          refine AWPD.keep [9, 10, 50, 51] rfl ?_
          refine AWPD.region (tabOK.own [84]) rfl ?_
          refine hK23 _ _ ?_
          clear hK23
          refine AWPD.seq fun K24 hK24 => ?_
          first | refine AWPD.condP rfl (fun h5 => ?_) (fun h5 => ?_) | refine AWPD.condN rfl (fun h5 => ?_) (fun h5 => ?_) | refine AWPD.condAP rfl (fun h5 => ?_) (fun h5 => ?_) | refine AWPD.condOP rfl (fun h5 => ?_) (fun h5 => ?_) | refine AWPD.condONN rfl (fun h5 => ?_) (fun h5 => ?_) | refine AWPD.condOPN rfl (fun h5 => ?_) (fun h5 => ?_) | refine AWPD.condA rfl (fun h5 => ?_) (fun h5 => ?_) | refine AWPD.condO rfl (fun h5 => ?_) (fun h5 => ?_) | refine AWPD.cond rfl (fun h5 => ?_) (fun h5 => ?_)
          · try dsimp only [Ty.T] at h5
            try simp only [castL_self] at h5
            try simp only [Int.toNat_natCast] at h5
            try simp only [Int.toNat_zero] at h5
            refine AWPD.skip ?_
            refine hK24 _ _ ?_
            clear hK24
            refine AWPD.seq fun K25 hK25 => ?_
            refine AWPD.block ?_
            refine AWPD.seq fun K26 hK26 => ?_
            -- region 17
            refine AWPD.keep [9, 10, 50, 51] rfl ?_
            refine AWPD.region (tabOK.own [84]) rfl ?_
            refine hK26 _ _ ?_
            clear hK26
            -- region 18
            refine AWPD.keep [9, 10, 11, 50, 51] rfl ?_
            refine AWPD.region (tabOK.own [84]) rfl ?_
            repeat refine And.intro (by first | exact fun h => h | exact fun _ => rfl | (intro h; rw [h]; rfl) | omega | (intros; (try dsimp only [Ty.T, Ty.size]); (try simp only [castL_self, Int.toNat_natCast, Int.toNat_zero, Int.toNat_one, true_and, List.length_append, List.length_set, List.length_drop, List.length_take, List.length_replicate, List.length_cons, List.length_nil, Nat.zero_add, Nat.mul_one]); omega) | decide | (intros; simp_all; done) | (intros; simp_all; omega)) ?_
            refine hK25 _ _ ?_
            clear hK25
            -- region 19
            refine AWPD.keep [9, 10, 50, 51] rfl ?_
            refine AWPD.region (tabOK.own [84]) rfl ?_
            repeat refine And.intro (by first | exact fun h => h | exact fun _ => rfl | (intro h; rw [h]; rfl) | omega | (intros; (try dsimp only [Ty.T, Ty.size]); (try simp only [castL_self, Int.toNat_natCast, Int.toNat_zero, Int.toNat_one, true_and, List.length_append, List.length_set, List.length_drop, List.length_take, List.length_replicate, List.length_cons, List.length_nil, Nat.zero_add, Nat.mul_one]); omega) | decide | (intros; simp_all; done) | (intros; simp_all; omega)) ?_
            refine ⟨n1 - 1, i + 1, [0], by omega, by omega, ⟨by decide, rfl⟩, ⟨⟨rfl, rfl, fillP_step (by omega)⟩, trivial⟩, ?_⟩
            repeat' first | exact True.intro | exact rfl | exact ⟨rfl, rfl⟩ | refine And.intro ?_ ?_
          · try dsimp only [Ty.T] at h5
            try simp only [castL_self] at h5
            try simp only [Int.toNat_natCast] at h5
            try simp only [Int.toNat_zero] at h5
            refine AWPD.exit ?_
            refine hK21 _ _ ?_
            clear hK21
            refine AWPD.seq fun K27 hK27 => ?_
            -- region 20
            refine AWPD.keep [9] rfl ?_
            refine AWPD.region (tabOK.own [84]) rfl ?_
            refine hK27 _ _ ?_
            clear hK27
            refine AWPD.ret (And.intro (.inl rfl) ?_)
            -- result 3
            exact ⟨fitR rfl rfl (by rw [lf.2, ← hke, ← fillP_all, show i = p.toNat by omega]), fitE rfl lf.1.symm⟩
      · try dsimp only [Ty.T] at h2
        try simp only [castL_self] at h2
        try simp only [Int.toNat_natCast] at h2
        try simp only [Int.toNat_zero] at h2
        have hnl : need.toNat ≤ l.length := by omega
        have htg := take_good g hfe (n := need.toNat) (by omega) hnl
        have hjv := joinV_in (l := l.take need.toNat) gp2
        have lm := left_many hs hn h2
        have hdl : (l.drop need.toNat).length = l.length - need.toNat := by simp
        refine AWPD.skip ?_
        refine hK10 _ _ ?_
        clear hK10
        refine AWPD.seq fun K28 hK28 => ?_
        -- region 21
        refine AWPD.keep [0, 1, 2, 9] rfl ?_
        refine AWPD.region (tabOK.own [84]) rfl ?_
        repeat refine And.intro (by first | exact fun h => h | exact fun _ => rfl | (intro h; rw [h]; rfl) | omega | (intros; (try dsimp only [Ty.T, Ty.size]); (try simp only [castL_self, Int.toNat_natCast, Int.toNat_zero, Int.toNat_one, true_and, List.length_append, List.length_set, List.length_drop, List.length_take, List.length_replicate, List.length_cons, List.length_nil, Nat.zero_add, Nat.mul_one]); omega) | decide | (intros; simp_all; done) | (intros; simp_all; omega)) ?_
        refine Exists.intro _ (Exists.intro _ (And.intro (StepD.call (join_fn p (l.take need.toNat)) rfl rfl rfl) (And.intro rfl (And.intro trivial ?_))))
        refine hK28 _ _ ?_
        clear hK28
        refine AWPD.seq fun K29 hK29 => ?_
        refine AWPD.seq fun K30 hK30 => ?_
        -- region 22
        refine AWPD.keep [0, 1, 2, 9, 12, 13] rfl ?_
        refine AWPD.region (tabOK.own [84]) rfl ?_
        refine hK30 _ _ ?_
        clear hK30
        first | refine AWPD.condP rfl (fun h6 => ?_) (fun h6 => ?_) | refine AWPD.condN rfl (fun h6 => ?_) (fun h6 => ?_) | refine AWPD.condAP rfl (fun h6 => ?_) (fun h6 => ?_) | refine AWPD.condOP rfl (fun h6 => ?_) (fun h6 => ?_) | refine AWPD.condONN rfl (fun h6 => ?_) (fun h6 => ?_) | refine AWPD.condOPN rfl (fun h6 => ?_) (fun h6 => ?_) | refine AWPD.condA rfl (fun h6 => ?_) (fun h6 => ?_) | refine AWPD.condO rfl (fun h6 => ?_) (fun h6 => ?_) | refine AWPD.cond rfl (fun h6 => ?_) (fun h6 => ?_)
        · try dsimp only [Ty.T] at h6
          try simp only [castL_self] at h6
          try simp only [Int.toNat_natCast] at h6
          try simp only [Int.toNat_zero] at h6
          exact absurd htg h6
        · try dsimp only [Ty.T] at h6
          try simp only [castL_self] at h6
          try simp only [Int.toNat_natCast] at h6
          try simp only [Int.toNat_zero] at h6
          refine AWPD.skip ?_
          refine hK29 _ _ ?_
          clear hK29
          refine AWPD.seq fun K31 hK31 => ?_
          refine AWPD.seq fun K32 hK32 => ?_
          -- region 24
          refine AWPD.keep [0, 1, 2, 9, 12] rfl ?_
          refine AWPD.region (tabOK.own [84]) rfl ?_
          repeat refine And.intro (by first | exact fun h => h | exact fun _ => rfl | (intro h; rw [h]; rfl) | omega | (intros; (try dsimp only [Ty.T, Ty.size]); (try simp only [castL_self, Int.toNat_natCast, Int.toNat_zero, Int.toNat_one, true_and, List.length_append, List.length_set, List.length_drop, List.length_take, List.length_replicate, List.length_cons, List.length_nil, Nat.zero_add, Nat.mul_one]); omega) | decide | (intros; simp_all; done) | (intros; simp_all; omega)) ?_
          refine hK32 _ _ ?_
          clear hK32
          refine AWPD.block ?_
          -- LOOP 2 live [0, 1, 2, 9, 12, 73, 74, 75] changed [75]
          refine AWPD.loopK (σ := Nat) [0, 1, 2, 12, 73, 74] (fun j base => (9, .ob 0) :: (75, .i (j : Int)) :: base) (fun j => [.row 3 .int (List.replicate p.toNat 0)]) (fun n j => n + j = (l.drop need.toNat).length ∧ ∀ a, a < j → joinV p (otherS l need.toNat (l.getD (need.toNat + a) (0, 0))) = joinV p (l.take need.toNat)) ((l.drop need.toNat).length) 0 [0] rfl rfl (⟨by omega, by intro a ha; omega⟩) (by decide) ⟨⟨rfl, rfl, rfl⟩, trivial⟩ (by repeat' first | exact True.intro | exact rfl | exact ⟨rfl, rfl⟩ | refine And.intro ?_ ?_) fun n2 j hI2 => ?_
          obtain ⟨hn2, hv2⟩ := hI2
          refine AWPD.seq fun K33 hK33 => ?_
          -- region 25
          refine AWPD.keep [0, 1, 2, 9, 12, 73, 74, 75] rfl ?_
          refine AWPD.region (tabOK.own [84]) rfl ?_
          refine hK33 _ _ ?_
          clear hK33
          refine AWPD.seq fun K34 hK34 => ?_
          first | refine AWPD.condP rfl (fun h7 => ?_) (fun h7 => ?_) | refine AWPD.condN rfl (fun h7 => ?_) (fun h7 => ?_) | refine AWPD.condAP rfl (fun h7 => ?_) (fun h7 => ?_) | refine AWPD.condOP rfl (fun h7 => ?_) (fun h7 => ?_) | refine AWPD.condONN rfl (fun h7 => ?_) (fun h7 => ?_) | refine AWPD.condOPN rfl (fun h7 => ?_) (fun h7 => ?_) | refine AWPD.condA rfl (fun h7 => ?_) (fun h7 => ?_) | refine AWPD.condO rfl (fun h7 => ?_) (fun h7 => ?_) | refine AWPD.cond rfl (fun h7 => ?_) (fun h7 => ?_)
          · try dsimp only [Ty.T] at h7
            try simp only [castL_self] at h7
            try simp only [Int.toNat_natCast] at h7
            try simp only [Int.toNat_zero] at h7
            have hog := other_good g hfe (n := need.toNat) (j := j) (by omega) hnl (by omega)
            rw [← drop_getD] at hog
            have hol : (List.drop 1 (l.take need.toNat)).length = need.toNat - 1 := by simp; omega
            refine AWPD.skip ?_
            refine hK34 _ _ ?_
            clear hK34
            refine AWPD.seq fun K35 hK35 => ?_
            refine AWPD.block ?_
            refine AWPD.seq fun K36 hK36 => ?_
            -- region 26
            refine AWPD.keep [0, 1, 2, 9, 12, 73, 74, 75] rfl ?_
            refine AWPD.region (tabOK.own [84]) rfl ?_
            repeat refine And.intro (by first | exact fun h => h | exact fun _ => rfl | (intro h; rw [h]; rfl) | omega | (intros; (try dsimp only [Ty.T, Ty.size]); (try simp only [castL_self, Int.toNat_natCast, Int.toNat_zero, Int.toNat_one, true_and, List.length_append, List.length_set, List.length_drop, List.length_take, List.length_replicate, List.length_cons, List.length_nil, Nat.zero_add, Nat.mul_one]); omega) | decide | (intros; simp_all; done) | (intros; simp_all; omega)) ?_
            refine hK36 _ _ ?_
            clear hK36
            refine AWPD.seq fun K37 hK37 => ?_
            -- region 27
            refine AWPD.keep [0, 1, 2, 9, 12, 15, 73, 74, 75] rfl ?_
            refine AWPD.draw (tabOK.own [84]) [5, 9] rfl (by kernel_rfl) ?_
            repeat refine And.intro (by first | exact fun h => h | exact fun _ => rfl | (intro h; rw [h]; rfl) | omega | (intros; (try dsimp only [Ty.T, Ty.size]); (try simp only [castL_self, Int.toNat_natCast, Int.toNat_zero, Int.toNat_one, true_and, List.length_append, List.length_set, List.length_drop, List.length_take, List.length_replicate, List.length_cons, List.length_nil, Nat.zero_add, Nat.mul_one]); omega) | decide | (intros; simp_all; done) | (intros; simp_all; omega)) ?_
            refine hK37 _ _ ?_
            clear hK37
            refine AWPD.seq fun K38 hK38 => ?_
            -- region 28
            refine AWPD.keep [0, 1, 2, 9, 12, 16, 73, 74, 75] rfl ?_
            refine AWPD.region (tabOK.own [84]) rfl ?_
            refine Exists.intro _ (Exists.intro _ (And.intro (StepD.callS (join_fn p (otherS l need.toNat ((l.drop need.toNat).getD j (0, 0)))) rfl rfl rfl) (And.intro rfl (And.intro trivial ?_))))
            refine hK38 _ _ ?_
            clear hK38
            refine AWPD.seq fun K39 hK39 => ?_
            refine AWPD.seq fun K40 hK40 => ?_
            -- region 29
            refine AWPD.keep [0, 1, 2, 9, 12, 17, 18, 73, 74, 75] rfl ?_
            refine AWPD.region (tabOK.own [84]) rfl ?_
            refine hK40 _ _ ?_
            clear hK40
            first | refine AWPD.condP rfl (fun h8 => ?_) (fun h8 => ?_) | refine AWPD.condN rfl (fun h8 => ?_) (fun h8 => ?_) | refine AWPD.condAP rfl (fun h8 => ?_) (fun h8 => ?_) | refine AWPD.condOP rfl (fun h8 => ?_) (fun h8 => ?_) | refine AWPD.condONN rfl (fun h8 => ?_) (fun h8 => ?_) | refine AWPD.condOPN rfl (fun h8 => ?_) (fun h8 => ?_) | refine AWPD.condA rfl (fun h8 => ?_) (fun h8 => ?_) | refine AWPD.condO rfl (fun h8 => ?_) (fun h8 => ?_) | refine AWPD.cond rfl (fun h8 => ?_) (fun h8 => ?_)
            · try dsimp only [Ty.T] at h8
              try simp only [castL_self] at h8
              try simp only [Int.toNat_natCast] at h8
              try simp only [Int.toNat_zero] at h8
              exact absurd hog h8
            · try dsimp only [Ty.T] at h8
              try simp only [castL_self] at h8
              try simp only [Int.toNat_natCast] at h8
              try simp only [Int.toNat_zero] at h8
              refine AWPD.skip ?_
              refine hK39 _ _ ?_
              clear hK39
              refine AWPD.seq fun K41 hK41 => ?_
              -- region 31
              refine AWPD.keep [0, 1, 2, 9, 12, 17, 73, 74, 75] rfl ?_
              refine AWPD.region (tabOK.own [84]) rfl ?_
              refine hK41 _ _ ?_
              clear hK41
              first | refine AWPD.condP rfl (fun h9 => ?_) (fun h9 => ?_) | refine AWPD.condN rfl (fun h9 => ?_) (fun h9 => ?_) | refine AWPD.condAP rfl (fun h9 => ?_) (fun h9 => ?_) | refine AWPD.condOP rfl (fun h9 => ?_) (fun h9 => ?_) | refine AWPD.condONN rfl (fun h9 => ?_) (fun h9 => ?_) | refine AWPD.condOPN rfl (fun h9 => ?_) (fun h9 => ?_) | refine AWPD.condA rfl (fun h9 => ?_) (fun h9 => ?_) | refine AWPD.condO rfl (fun h9 => ?_) (fun h9 => ?_) | refine AWPD.cond rfl (fun h9 => ?_) (fun h9 => ?_)
              · try dsimp only [Ty.T] at h9
                try simp only [castL_self] at h9
                try simp only [Int.toNat_natCast] at h9
                try simp only [Int.toNat_zero] at h9
                refine AWPD.seq fun K42 hK42 => ?_
                -- region 32
                refine AWPD.keep [9] rfl ?_
                refine AWPD.region (tabOK.own [84]) rfl ?_
                refine hK42 _ _ ?_
                clear hK42
                refine AWPD.ret (And.intro (.inl rfl) ?_)
                -- result 4
                refine ⟨fitR rfl rfl ?_, fitE rfl lm.1.symm⟩
                rw [lm.2, if_neg]
                intro hsm
                exact h9 (by have hx := hsm j (by omega); rw [← drop_getD] at hx; exact hx)
              · try dsimp only [Ty.T] at h9
                try simp only [castL_self] at h9
                try simp only [Int.toNat_natCast] at h9
                try simp only [Int.toNat_zero] at h9
                refine AWPD.skip ?_
                refine hK35 _ _ ?_
                clear hK35
                -- region 33
                refine AWPD.keep [0, 1, 2, 9, 12, 73, 74, 75] rfl ?_
                refine AWPD.region (tabOK.own [84]) rfl ?_
                repeat refine And.intro (by first | exact fun h => h | exact fun _ => rfl | (intro h; rw [h]; rfl) | omega | (intros; (try dsimp only [Ty.T, Ty.size]); (try simp only [castL_self, Int.toNat_natCast, Int.toNat_zero, Int.toNat_one, true_and, List.length_append, List.length_set, List.length_drop, List.length_take, List.length_replicate, List.length_cons, List.length_nil, Nat.zero_add, Nat.mul_one]); omega) | decide | (intros; simp_all; done) | (intros; simp_all; omega)) ?_
                refine ⟨n2 - 1, j + 1, [0], by omega, ⟨by omega, fun a ha => by
                      rcases Nat.lt_or_ge a j with h | h
                      · exact hv2 a h
                      · rw [show a = j by omega, ← drop_getD]
                        have h9 : ¬joinV p (otherS l need.toNat ((l.drop need.toNat).getD j (0, 0))) ≠ joinV p (l.take need.toNat) := h9
                        omega⟩, ⟨by decide, rfl⟩, ⟨⟨rfl, rfl, rfl⟩, trivial⟩, ?_⟩
                repeat' first | exact True.intro | exact rfl | exact ⟨rfl, rfl⟩ | refine And.intro ?_ ?_
          · try dsimp only [Ty.T] at h7
            try simp only [castL_self] at h7
            try simp only [Int.toNat_natCast] at h7
            try simp only [Int.toNat_zero] at h7
            refine AWPD.exit ?_
            refine hK31 _ _ ?_
            clear hK31
            refine AWPD.seq fun K43 hK43 => ?_
            -- region 34
            refine AWPD.keep [9, 12] rfl ?_
            refine AWPD.region (tabOK.own [84]) rfl ?_
            repeat refine And.intro (by first | exact fun h => h | exact fun _ => rfl | (intro h; rw [h]; rfl) | omega | (intros; (try dsimp only [Ty.T, Ty.size]); (try simp only [castL_self, Int.toNat_natCast, Int.toNat_zero, Int.toNat_one, true_and, List.length_append, List.length_set, List.length_drop, List.length_take, List.length_replicate, List.length_cons, List.length_nil, Nat.zero_add, Nat.mul_one]); omega) | decide | (intros; simp_all; done) | (intros; simp_all; omega)) ?_
            refine hK43 _ _ ?_
            clear hK43
            refine AWPD.seq fun K44 hK44 => ?_
            -- region 35
            refine AWPD.keep [9] rfl ?_
            refine AWPD.region (tabOK.own [84]) rfl ?_
            refine hK44 _ _ ?_
            clear hK44
            refine AWPD.ret (And.intro (.inl rfl) ?_)
            -- result 5
            refine ⟨fitR rfl rfl ?_, fitE rfl lm.1.symm⟩
            have hsm : sameS p l need.toNat := fun a ha => hv2 a (by omega)
            rw [lm.2, if_pos hsm]
            rfl

def sumI (m : List Int) : Nat → Int
  | 0 => 0
  | i + 1 => sumI m i + m.getD i 0
theorem sumI_in {m : List Int} {n : Nat} (h : ∀ i, i < n → 0 ≤ m.getD i 0 ∧ m.getD i 0 ≤ 1000000000000) : ∀ i, i ≤ n → 0 ≤ sumI m i ∧ sumI m i ≤ 1000000000000 * (i : Int)
  | 0, _ => by simp [sumI]
  | i + 1, hi => by
    have ih := sumI_in h i (by omega)
    have := h i (by omega)
    rw [sumI]; omega
theorem rep_get {n i : Nat} {c : Int} (h : i < n) : (List.replicate n c).getD i 0 = c := by simp [List.getD, h]
theorem hot_get {n i j : Nat} (hj : j < n) (h : i < n) : ((List.replicate n (0 : Int)).set j 1).getD i 0 = if i = j then 1 else 0 := by
  simp only [List.getD, List.getElem?_set, List.length_replicate]
  by_cases hij : j = i
  · subst hij; simp [hj]
  · rw [if_neg hij, if_neg (fun e => hij e.symm)]; simp [h]
theorem sum_zero (n : Nat) : ∀ i, i ≤ n → sumI (List.replicate n 0) i = 0
  | 0, _ => rfl
  | i + 1, h => by rw [sumI, sum_zero n i (by omega), rep_get (by omega)]; rfl
theorem sum_hot {n j : Nat} (hj : j < n) : ∀ i, i ≤ n → sumI ((List.replicate n (0 : Int)).set j 1) i = if j < i then 1 else 0
  | 0, _ => by simp [sumI]
  | i + 1, h => by
    rw [sumI, sum_hot hj i (by omega), hot_get hj (by omega)]
    by_cases h1 : j < i
    · rw [if_pos h1, if_neg (by omega), if_pos (by omega)]; rfl
    · rw [if_neg h1]
      by_cases h2 : i = j
      · rw [if_pos h2, if_pos (by omega)]; rfl
      · rw [if_neg h2, if_neg (by omega)]; rfl
structure LeftOK (p : Int) (l : List Sh) (need : Int) : Prop where
  p2 : 2 ≤ p
  p31 : p ≤ 31
  l12 : l.length ≤ 12
  n12 : 1 ≤ need ∧ need ≤ 12
  len : (leftV p l need).length = p.toNat
  in_ : ∀ i, i < p.toNat → 0 ≤ (leftV p l need).getD i 0 ∧ (leftV p l need).getD i 0 ≤ 1000000000000
  few : (l.length : Int) < need → ∀ i, i < p.toNat → 1 ≤ (leftV p l need).getD i 0
  sh : ¬(l.length : Int) < need → sharesE p (l.take need.toNat) = 0
  many : ¬(l.length : Int) < need → sumI (leftV p l need) p.toNat ≤ 1 ∧ 0 ≤ joinV p (l.take need.toNat) ∧ joinV p (l.take need.toNat) < p ∧ (leftV p l need).getD (joinV p (l.take need.toNat)).toNat 0 = sumI (leftV p l need) p.toNat
theorem left_ok {p : Int} {l : List Sh} {need : Int} (h : leftE p l need = 0) : LeftOK p l need := by
  have hs : sharesE p l = 0 := by
    unfold leftE at h
    split at h
    · rename_i h1; exact absurd h h1
    · omega
  have hn : 1 ≤ need ∧ need ≤ 12 := by
    unfold leftE at h
    rw [if_neg (by omega)] at h
    split at h
    · cases h
    · rename_i h1; exact Decidable.not_not.1 h1
  have g := shares_good hs
  have gp2 := g.p2
  have gp3 := g.p31
  have hfe : fieldE p = 0 := by
    unfold sharesE at hs
    split at hs
    · rename_i h1; exact absurd hs h1
    · omega
  by_cases hl : (l.length : Int) < need
  · have hp : powI p (need - 1 - l.length).toNat ≤ 1000000000000 := by
      unfold leftE at h
      rw [if_neg (by omega), if_neg (fun h => h hn)] at h
      split at h
      · cases h
      · rename_i h1; exact Int.not_lt.1 fun h2 => h1 ⟨hl, h2⟩
    have e := (left_few hs hn hl hp).2
    have h1 := powI_pos gp2 (need - 1 - l.length).toNat
    refine ⟨gp2, gp3, g.few, hn, by rw [e, List.length_replicate], fun i hi => by rw [e, rep_get hi]; omega, fun _ i hi => by rw [e, rep_get hi]; exact h1, fun h2 => absurd hl h2, fun h2 => absurd hl h2⟩
  · have e := (left_many hs hn hl).2
    have hj := joinV_in (l := l.take need.toNat) gp2
    have ht := take_good g hfe (n := need.toNat) (by omega) (by omega)
    by_cases hsm : sameS p l need.toNat
    · rw [if_pos hsm] at e
      refine ⟨gp2, gp3, g.few, hn, by rw [e, List.length_set, List.length_replicate], fun i hi => by rw [e, hot_get (by omega) hi]; split <;> omega, fun h2 => absurd h2 hl, fun _ => ht, fun _ => ?_⟩
      rw [e, sum_hot (by omega) _ (Nat.le_refl _), if_pos (by omega), hot_get (by omega) (by omega), if_pos rfl]
      omega
    · rw [if_neg hsm] at e
      refine ⟨gp2, gp3, g.few, hn, by rw [e, List.length_replicate], fun i hi => by rw [e, rep_get hi]; omega, fun h2 => absurd h2 hl, fun _ => ht, fun _ => ?_⟩
      rw [e, sum_zero _ _ (Nat.le_refl _), rep_get (by omega)]
      omega
theorem leftV_no {p : Int} {l : List Sh} {need : Int} (h : leftE p l need ≠ 0) : leftV p l need = [] := by unfold leftV; rw [if_pos h]

end Go.Proofs.YtdikoipldcjcpaaDoor
