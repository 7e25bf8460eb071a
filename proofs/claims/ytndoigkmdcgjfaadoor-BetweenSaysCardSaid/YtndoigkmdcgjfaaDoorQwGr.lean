/-
  WALKS of groups of things that are joined pair by pair, and of their names; what a group's first one is. Laid by a program of mine out of the operations, with the loops and results told by hand.
-/
import Derived.Test.YtndoigkmdcgjfaaDoorQwQu
namespace Go.Proofs.YtndoigkmdcgjfaaDoor
open Go Go.Qw
set_option maxRecDepth 10000
set_option linter.unusedSimpArgs false
set_option linter.unusedVariables false
set_option linter.unusedSectionVars false


structure UF (g : List Int) : Prop where
  le : ∀ k, k < g.length → 0 ≤ g.getD k 0 ∧ g.getD k 0 ≤ (k : Int)
def rt (g : List Int) : Nat → Nat → Nat
  | 0, k => k
  | f + 1, k => if (g.getD k 0).toNat < k then rt g f (g.getD k 0).toNat else k
def root (g : List Int) (k : Nat) : Nat := rt g k k
theorem rt_enough (g : List Int) : ∀ (k f : Nat), k ≤ f → rt g f k = rt g k k := by
  intro k
  induction k using Nat.strongRecOn with
  | _ k ih =>
    intro f hf
    cases k with
    | zero =>
      cases f with
      | zero => rfl
      | succ f => simp [rt]
    | succ m =>
      cases f with
      | zero => omega
      | succ f =>
        simp only [rt]
        split
        · rename_i h
          rw [ih _ h f (by omega), ih _ h m (by omega)]
        · rfl
theorem root_step (g : List Int) (k : Nat) : root g k = if (g.getD k 0).toNat < k then root g (g.getD k 0).toNat else k := by
  unfold root
  cases k with
  | zero => simp [rt]
  | succ m =>
    rw [rt]
    split
    · rename_i h
      rw [rt_enough g _ m (by omega)]
    · rfl
theorem root_le (g : List Int) : ∀ k, root g k ≤ k := by
  intro k
  induction k using Nat.strongRecOn with
  | _ k ih =>
    rw [root_step]
    split
    · rename_i h
      have := ih _ h
      omega
    · omega
theorem root_stop (g : List Int) : ∀ k, ¬(g.getD (root g k) 0).toNat < root g k := by
  intro k
  induction k using Nat.strongRecOn with
  | _ k ih =>
    rw [root_step]
    split
    · rename_i h; exact ih _ h
    · assumption
theorem root_root (g : List Int) (k : Nat) : root g (root g k) = root g k := by
  rw [root_step g (root g k), if_neg (root_stop g k)]
theorem root_own {g : List Int} (u : UF g) {k : Nat} (hk : k < g.length) (h : g.getD k 0 = (k : Int)) : root g k = k := by
  rw [root_step, if_neg (by omega)]
theorem set_get {g : List Int} {i k : Nat} {v : Int} (hi : i < g.length) : (g.set i v).getD k 0 = if k = i then v else g.getD k 0 := by
  simp only [List.getD, List.getElem?_set]
  by_cases h : i = k
  · subst h; simp [hi]
  · rw [if_neg h, if_neg (fun e => h e.symm)]
/-- A way made shorter leads to the same. -/
theorem halve_root {g : List Int} (u : UF g) {i : Nat} (hi : i < g.length) : ∀ k, root (g.set i (g.getD (g.getD i 0).toNat 0)) k = root g k := by
  intro k
  induction k using Nat.strongRecOn with
  | _ k ih =>
    have hgi := u.le i hi
    have hv := u.le (g.getD i 0).toNat (by omega)
    rw [root_step (g.set i _), root_step g k, set_get hi]
    by_cases hk : k = i
    · subst hk
      rw [if_pos rfl]
      by_cases h1 : (g.getD k 0).toNat < k
      · rw [if_pos (by omega), if_pos h1, ih _ (by omega), root_step g (g.getD k 0).toNat]
        split
        · rfl
        · rename_i h2
          rw [show (g.getD (g.getD k 0).toNat 0).toNat = (g.getD k 0).toNat by omega, root_step, if_neg h2]
      · have e : (g.getD k 0).toNat = k := by omega
        rw [if_neg h1, if_neg (by rw [e]; omega)]
    · rw [if_neg hk]
      split
      · rename_i h; exact ih _ h
      · rfl
theorem halve_uf {g : List Int} (u : UF g) {i : Nat} (hi : i < g.length) : UF (g.set i (g.getD (g.getD i 0).toNat 0)) := by
  have hgi := u.le i hi
  have hv := u.le (g.getD i 0).toNat (by omega)
  refine ⟨fun k hk => ?_⟩
  rw [List.length_set] at hk
  rw [set_get hi]
  split
  · rename_i h; subst h; omega
  · exact u.le k hk
def fnd : Nat → List Int → Int → List Int × Int
  | 0, g, i => (g, i)
  | f + 1, g, i => if g.getD i.toNat 0 ≠ i then fnd f (g.set i.toNat (g.getD (g.getD i.toNat 0).toNat 0)) (g.getD (g.getD i.toNat 0).toNat 0) else (g, i)
structure Fnd (g : List Int) (i : Int) (s : List Int × Int) : Prop where
  uf : UF s.1
  len : s.1.length = g.length
  same : ∀ k, root s.1 k = root g k
  is_ : s.2 = (root g i.toNat : Int)
theorem fnd_ok : ∀ (f : Nat) (g : List Int) (i : Int), UF g → 0 ≤ i → i.toNat < g.length → i.toNat < f → Fnd g i (fnd f g i)
  | f + 1, g, i, u, h0, hl, hf => by
    have hgi := u.le i.toNat hl
    unfold fnd
    split
    · rename_i hne
      have hv := u.le (g.getD i.toNat 0).toNat (by omega)
      have ih := fnd_ok f _ (g.getD (g.getD i.toNat 0).toNat 0) (halve_uf u hl) (by omega) (by rw [List.length_set]; omega) (by omega)
      refine ⟨ih.uf, by rw [ih.len, List.length_set], fun k => by rw [ih.same, halve_root u hl], ?_⟩
      rw [ih.is_, halve_root u hl]
      have e : root g i.toNat = root g (g.getD (g.getD i.toNat 0).toNat 0).toNat := by
        rw [root_step g i.toNat, if_pos (by omega), root_step g (g.getD i.toNat 0).toNat]
        split
        · rfl
        · rename_i h2
          rw [show (g.getD (g.getD i.toNat 0).toNat 0).toNat = (g.getD i.toNat 0).toNat by omega, root_step, if_neg h2]
      rw [e]
    · rename_i he
      exact ⟨u, rfl, fun _ => rfl, by rw [root_own u hl (by omega)]; omega⟩
def findG (g : List Int) (i : Int) : List Int × Int := fnd (i.toNat + 1) g i
theorem findG_ok {g : List Int} {i : Int} (u : UF g) (h0 : 0 ≤ i) (hl : i.toNat < g.length) : Fnd g i (findG g i) := fnd_ok _ g i u h0 hl (by omega)
theorem fnd_go {f : Nat} {g : List Int} {i : Int} (h : g.getD i.toNat 0 ≠ i) : fnd (f + 1) g i = fnd f (g.set i.toNat (g.getD (g.getD i.toNat 0).toNat 0)) (g.getD (g.getD i.toNat 0).toNat 0) := by rw [fnd, if_pos h]
theorem fnd_end {f : Nat} {g : List Int} {i : Int} (h : ¬g.getD i.toNat 0 ≠ i) (hf : 0 < f) : fnd f g i = (g, i) := by
  cases f with
  | zero => omega
  | succ f => rw [fnd, if_neg h]
theorem getD_set_self {g : List Int} {i : Nat} {v : Int} (h : i < g.length) : (g.set i v).getD i 0 = v := by rw [set_get h, if_pos rfl]

theorem find_fn (g : List Int) (i : Int) (u : UF g) (h0 : 0 ≤ i) (hl : i.toNat < g.length) (hg : g.length ≤ 1000000) : LiftsO Tryd.prog 55 [.ob 0, .i i] (.row 3 .int g) (.i (findG g i).2) (.row 3 .int (findG g i).1) := by
  refine LiftsO.of_body 26 [.tmp 4] Tryd.func55 rfl Tryd.ntmps55 (by kernel_rfl) rfl rfl fun w0 X0 F0 x0 => ?_
  refine AWPD.seq fun K1 hK1 => ?_
  -- region 0
  refine AWPD.keep [0, 1] rfl ?_
  refine AWPD.region tabOK rfl ?_
  refine hK1 _ _ ?_
  clear hK1
  refine AWPD.seq fun K2 hK2 => ?_
  refine AWPD.block ?_
  -- LOOP 0 live [0, 1] changed [1]
  refine AWPD.loopK (σ := List Int × Int) [] (fun s base => (0, .ob 0) :: (1, .i s.2) :: base) (fun s => [.row 3 .int s.1]) (fun n s => UF s.1 ∧ s.1.length = g.length ∧ 0 ≤ s.2 ∧ s.2.toNat < g.length ∧ s.2.toNat < n ∧ findG g i = fnd n s.1 s.2) (i.toNat + 1) (g, i) [0] rfl rfl (⟨u, rfl, h0, hl, by show i.toNat < i.toNat + 1; omega, rfl⟩) (by decide) ⟨⟨rfl, rfl, rfl⟩, trivial⟩ (by repeat' first | exact True.intro | exact rfl | exact ⟨rfl, rfl⟩ | refine And.intro ?_ ?_) fun n0 s hI0 => ?_
  obtain ⟨hu, hsl, hs0, hsg, hsn, hfe⟩ := hI0
  have hgi := hu.le s.2.toNat (by omega)
  have hv := hu.le (s.1.getD s.2.toNat 0).toNat (by omega)
  refine AWPD.seq fun K3 hK3 => ?_
  refine AWPD.seq fun K4 hK4 => ?_
  -- region 1
  refine AWPD.keep [0, 1] rfl ?_
  refine AWPD.region tabOK rfl ?_
  repeat refine And.intro (by first | exact fun h => h | exact fun _ => rfl | (intro h; rw [h]; rfl) | omega | (intros; (try dsimp only [Ty.T, Ty.size]); (try simp only [castL_self, Int.toNat_natCast, Int.toNat_zero, Int.toNat_one, true_and, List.length_append, List.length_set, List.length_drop, List.length_take, List.length_replicate, List.length_cons, List.length_nil, Nat.zero_add, Nat.mul_one]); omega) | decide | (intros; simp_all; done) | (intros; simp_all; omega)) ?_
  refine hK4 _ _ ?_
  clear hK4
  first | refine AWPD.condP rfl (fun h0 => ?_) (fun h0 => ?_) | refine AWPD.condN rfl (fun h0 => ?_) (fun h0 => ?_) | refine AWPD.condAP rfl (fun h0 => ?_) (fun h0 => ?_) | refine AWPD.condOP rfl (fun h0 => ?_) (fun h0 => ?_) | refine AWPD.condONN rfl (fun h0 => ?_) (fun h0 => ?_) | refine AWPD.condOPN rfl (fun h0 => ?_) (fun h0 => ?_) | refine AWPD.condA rfl (fun h0 => ?_) (fun h0 => ?_) | refine AWPD.condO rfl (fun h0 => ?_) (fun h0 => ?_) | refine AWPD.cond rfl (fun h0 => ?_) (fun h0 => ?_)
  · try dsimp only [Ty.T] at h0
    try simp only [castL_self] at h0
    try simp only [Int.toNat_natCast] at h0
    try simp only [Int.toNat_zero] at h0
    refine AWPD.skip ?_
    refine hK3 _ _ ?_
    clear hK3
    refine AWPD.block ?_
    refine AWPD.seq fun K5 hK5 => ?_
    -- region 2
    refine AWPD.keep [0, 1] rfl ?_
    refine AWPD.region tabOK rfl ?_
    repeat refine And.intro (by first | exact fun h => h | exact fun _ => rfl | (intro h; rw [h]; rfl) | omega | (intros; (try dsimp only [Ty.T, Ty.size]); (try simp only [castL_self, Int.toNat_natCast, Int.toNat_zero, Int.toNat_one, true_and, List.length_append, List.length_set, List.length_drop, List.length_take, List.length_replicate, List.length_cons, List.length_nil, Nat.zero_add, Nat.mul_one]); omega) | decide | (intros; simp_all; done) | (intros; simp_all; omega)) ?_
    refine hK5 _ _ ?_
    clear hK5
    -- region 3
    refine AWPD.keep [0, 1] rfl ?_
    refine AWPD.region tabOK rfl ?_
    repeat refine And.intro (by first | exact fun h => h | exact fun _ => rfl | (intro h; rw [h]; rfl) | omega | (intros; (try dsimp only [Ty.T, Ty.size]); (try simp only [castL_self, Int.toNat_natCast, Int.toNat_zero, Int.toNat_one, true_and, List.length_append, List.length_set, List.length_drop, List.length_take, List.length_replicate, List.length_cons, List.length_nil, Nat.zero_add, Nat.mul_one]); omega) | decide | (intros; simp_all; done) | (intros; simp_all; omega)) ?_
    refine ⟨n0 - 1, (s.1.set s.2.toNat (s.1.getD (s.1.getD s.2.toNat 0).toNat 0), s.1.getD (s.1.getD s.2.toNat 0).toNat 0), [0], by omega, ⟨halve_uf hu (by omega), by rw [← hsl]; exact List.length_set .., by show 0 ≤ s.1.getD _ 0; omega, by show (s.1.getD _ 0).toNat < _; omega, by show (s.1.getD _ 0).toNat < _; omega, by rw [hfe, show n0 = (n0 - 1) + 1 by omega, fnd_go h0]; rfl⟩, ⟨by decide, rfl⟩, ⟨⟨rfl, rfl, rfl⟩, trivial⟩, ?_⟩
    repeat' first | (show (List.set s.1 s.2.toNat (s.1.getD (s.1.getD s.2.toNat 0).toNat 0)).getD s.2.toNat 0 = s.1.getD (s.1.getD s.2.toNat 0).toNat 0; exact getD_set_self (by omega)) | exact True.intro | exact rfl | exact ⟨rfl, rfl⟩ | refine And.intro ?_ ?_
  · try dsimp only [Ty.T] at h0
    try simp only [castL_self] at h0
    try simp only [Int.toNat_natCast] at h0
    try simp only [Int.toNat_zero] at h0
    refine AWPD.exit ?_
    refine hK2 _ _ ?_
    clear hK2
    refine AWPD.seq fun K6 hK6 => ?_
    -- region 4
    refine AWPD.keep [1] rfl ?_
    refine AWPD.region tabOK rfl ?_
    refine hK6 _ _ ?_
    clear hK6
    refine AWPD.ret (And.intro (.inl rfl) ?_)
    -- result 0
    have hend := fnd_end h0 (show 0 < n0 by omega)
    exact ⟨⟨rfl, by rw [hfe, hend]; rfl, rfl⟩, FoldO.at0 (by rw [hfe, hend]; rfl) (row_free _ _ _)⟩

/-- Two groups joined. -/
def joinG (g : List Int) (i j : Int) : List Int × Bool :=
  if (findG g i).2 = (findG (findG g i).1 j).2 then ((findG (findG g i).1 j).1, false)
  else ((findG (findG g i).1 j).1.set (if (findG g i).2 < (findG (findG g i).1 j).2 then (findG (findG g i).1 j).2 else (findG g i).2).toNat (if (findG (findG g i).1 j).2 < (findG g i).2 then (findG (findG g i).1 j).2 else (findG g i).2), true)
theorem joinG_same {g : List Int} {i j : Int} (h : (findG g i).2 = (findG (findG g i).1 j).2) : joinG g i j = ((findG (findG g i).1 j).1, false) := by unfold joinG; rw [if_pos h]
theorem joinG_two {g : List Int} {i j : Int} (h : ¬(findG g i).2 = (findG (findG g i).1 j).2) : joinG g i j = ((findG (findG g i).1 j).1.set (if (findG g i).2 < (findG (findG g i).1 j).2 then (findG (findG g i).1 j).2 else (findG g i).2).toNat (if (findG (findG g i).1 j).2 < (findG g i).2 then (findG (findG g i).1 j).2 else (findG g i).2), true) := by unfold joinG; rw [if_neg h]

theorem joinG_fn (g : List Int) (i j : Int) (u : UF g) (h0 : 0 ≤ i) (hl : i.toNat < g.length) (h0j : 0 ≤ j) (hlj : j.toNat < g.length) (hg : g.length ≤ 1000000) : LiftsO Tryd.prog 54 [.ob 0, .i i, .i j] (.row 3 .int g) (.b (joinG g i j).2) (.row 3 .int (joinG g i j).1) := by
  have f1 := findG_ok u h0 hl
  have f2 := findG_ok f1.uf h0j (by rw [f1.len]; exact hlj)
  have r1 := root_le g i.toNat
  have r2 := root_le (findG g i).1 j.toNat
  have e1 := f1.is_
  have e2 := f2.is_
  have l1 := f1.len
  have l2 := f2.len
  refine LiftsO.of_body 24 [.tmp 6] Tryd.func54 rfl Tryd.ntmps54 (by kernel_rfl) rfl rfl fun w0 X0 F0 x0 => ?_
  refine AWPD.seq fun K1 hK1 => ?_
  -- region 0
  refine AWPD.keep [0, 1, 2] rfl ?_
  refine AWPD.region tabOK rfl ?_
  refine hK1 _ _ ?_
  clear hK1
  refine AWPD.seq fun K2 hK2 => ?_
  -- region 1
  refine AWPD.keep [0, 1, 2] rfl ?_
  refine AWPD.region tabOK rfl ?_
  refine Exists.intro _ (Exists.intro _ (And.intro (StepD.callO (i := 0) (find_fn g i u h0 hl hg) rfl rfl rfl rfl (by first | exact rfl | exact row_free _ _ _) (by first | exact rfl | exact row_free _ _ _)) (And.intro rfl (And.intro trivial ?_))))
  refine Exists.intro _ (Exists.intro _ (And.intro (StepD.callO (i := 0) (find_fn _ j f1.uf h0j (by omega) (by omega)) rfl rfl rfl rfl (by first | exact rfl | exact row_free _ _ _) (by first | exact rfl | exact row_free _ _ _)) (And.intro rfl (And.intro trivial ?_))))
  refine hK2 _ _ ?_
  clear hK2
  refine AWPD.seq fun K3 hK3 => ?_
  refine AWPD.seq fun K4 hK4 => ?_
  -- region 2
  refine AWPD.keep [0, 1, 2] rfl ?_
  refine AWPD.region tabOK rfl ?_
  refine hK4 _ _ ?_
  clear hK4
  first | refine AWPD.condP rfl (fun h0 => ?_) (fun h0 => ?_) | refine AWPD.condN rfl (fun h0 => ?_) (fun h0 => ?_) | refine AWPD.condAP rfl (fun h0 => ?_) (fun h0 => ?_) | refine AWPD.condOP rfl (fun h0 => ?_) (fun h0 => ?_) | refine AWPD.condONN rfl (fun h0 => ?_) (fun h0 => ?_) | refine AWPD.condOPN rfl (fun h0 => ?_) (fun h0 => ?_) | refine AWPD.condA rfl (fun h0 => ?_) (fun h0 => ?_) | refine AWPD.condO rfl (fun h0 => ?_) (fun h0 => ?_) | refine AWPD.cond rfl (fun h0 => ?_) (fun h0 => ?_)
  · try dsimp only [Ty.T] at h0
    try simp only [castL_self] at h0
    try simp only [Int.toNat_natCast] at h0
    try simp only [Int.toNat_zero] at h0
    have h0_1 := h0
    refine AWPD.seq fun K5 hK5 => ?_
    -- region 3
    refine AWPD.keep [] rfl ?_
    refine AWPD.region tabOK rfl ?_
    refine hK5 _ _ ?_
    clear hK5
    refine AWPD.ret (And.intro (.inl rfl) ?_)
    -- result 0
    exact ⟨⟨rfl, by rw [joinG_same h0_1]; rfl, rfl⟩, FoldO.at0 (by rw [joinG_same h0_1]; rfl) (row_free _ _ _)⟩
  · try dsimp only [Ty.T] at h0
    try simp only [castL_self] at h0
    try simp only [Int.toNat_natCast] at h0
    try simp only [Int.toNat_zero] at h0
    have h0_1 := h0
    refine AWPD.skip ?_
    refine hK3 _ _ ?_
    clear hK3
    refine AWPD.seq fun K6 hK6 => ?_
    -- region 4
    refine AWPD.keep [0, 1, 2] rfl ?_
    refine AWPD.region tabOK rfl ?_
    repeat refine And.intro (by first | exact fun h => h | exact fun _ => rfl | (intro h; rw [h]; rfl) | omega | (intros; (try dsimp only [Ty.T, Ty.size]); (try simp only [castL_self, Int.toNat_natCast, Int.toNat_zero, Int.toNat_one, true_and, List.length_append, List.length_set, List.length_drop, List.length_take, List.length_replicate, List.length_cons, List.length_nil, Nat.zero_add, Nat.mul_one]); omega) | decide | (intros; simp_all; done) | (intros; simp_all; omega)) ?_
    refine hK6 _ _ ?_
    clear hK6
    refine AWPD.seq fun K7 hK7 => ?_
    -- region 5
    refine AWPD.keep [] rfl ?_
    refine AWPD.region tabOK rfl ?_
    refine hK7 _ _ ?_
    clear hK7
    refine AWPD.ret (And.intro (.inl rfl) ?_)
    -- result 1
    exact ⟨⟨rfl, by rw [joinG_two h0_1]; rfl, rfl⟩, FoldO.at0 (by rw [joinG_two h0_1]; rfl) (row_free _ _ _)⟩

structure Joined (g : List Int) (i j : Int) (h : List Int) : Prop where
  uf : UF h
  len : h.length = g.length
  roots : ∀ k, root h k = if root g k = max (root g i.toNat) (root g j.toNat) then min (root g i.toNat) (root g j.toNat) else root g k
theorem join_root {g : List Int} (u : UF g) {a b : Nat} (hb : b < g.length) (hab : a < b) (ra : root g a = a) (rb : root g b = b) : UF (g.set b (a : Int)) ∧ ∀ k, root (g.set b (a : Int)) k = if root g k = b then a else root g k := by
  constructor
  · refine ⟨fun k hk => ?_⟩
    rw [List.length_set] at hk
    rw [set_get hb]
    split
    · omega
    · exact u.le k hk
  · intro k
    induction k using Nat.strongRecOn with
    | _ k ih =>
      rw [root_step (g.set b _), set_get hb]
      by_cases hk : k = b
      · subst hk
        rw [if_pos rfl, Int.toNat_natCast, if_pos hab, ih a hab, ra, rb, if_pos rfl, if_neg (by omega)]
      · rw [if_neg hk, root_step g k]
        by_cases h : (g.getD k 0).toNat < k
        · rw [if_pos h, if_pos h, ih _ h]
        · rw [if_neg h, if_neg h, if_neg hk]
theorem joinG_ok {g : List Int} {i j : Int} (u : UF g) (h0 : 0 ≤ i) (hl : i.toNat < g.length) (h0j : 0 ≤ j) (hlj : j.toNat < g.length) : Joined g i j (joinG g i j).1 ∧ (joinG g i j).2 = decide (root g i.toNat ≠ root g j.toNat) := by
  have f1 := findG_ok u h0 hl
  have f2 := findG_ok f1.uf h0j (by rw [f1.len]; exact hlj)
  have e1 := f1.is_
  have e2 := f2.is_
  rw [f1.same] at e2
  have r1 := root_le g i.toNat
  have r2 := root_le g j.toNat
  by_cases h : (findG g i).2 = (findG (findG g i).1 j).2
  · rw [joinG_same h]
    have he : root g i.toNat = root g j.toNat := by omega
    refine ⟨⟨f2.uf, by rw [f2.len, f1.len], fun k => ?_⟩, by simp [he]⟩
    rw [f2.same, f1.same, he]
    split
    · rename_i hk; rw [hk]; omega
    · rfl
  · rw [joinG_two h]
    have hne : root g i.toNat ≠ root g j.toNat := fun e => h (by omega)
    have s2 : ∀ k, root (findG (findG g i).1 j).1 k = root g k := fun k => by rw [f2.same, f1.same]
    have hlen : (findG (findG g i).1 j).1.length = g.length := by rw [f2.len, f1.len]
    rcases Nat.lt_or_gt_of_ne hne with hlt | hgt
    · have jr := join_root (a := root g i.toNat) (b := root g j.toNat) f2.uf (by omega) hlt (by rw [s2, root_root]) (by rw [s2, root_root])
      have ev : (if (findG (findG g i).1 j).2 < (findG g i).2 then (findG (findG g i).1 j).2 else (findG g i).2) = ((root g i.toNat : Nat) : Int) := by rw [if_neg (by omega)]; omega
      have ek : (if (findG g i).2 < (findG (findG g i).1 j).2 then (findG (findG g i).1 j).2 else (findG g i).2).toNat = root g j.toNat := by rw [if_pos (by omega)]; omega
      rw [ev, ek]
      refine ⟨⟨jr.1, by rw [List.length_set, hlen], fun k => ?_⟩, by simp [hne]⟩
      rw [jr.2, s2, Nat.max_eq_right (by omega), Nat.min_eq_left (by omega)]
    · have jr := join_root (a := root g j.toNat) (b := root g i.toNat) f2.uf (by omega) hgt (by rw [s2, root_root]) (by rw [s2, root_root])
      have ev : (if (findG (findG g i).1 j).2 < (findG g i).2 then (findG (findG g i).1 j).2 else (findG g i).2) = ((root g j.toNat : Nat) : Int) := by rw [if_pos (by omega)]; omega
      have ek : (if (findG g i).2 < (findG (findG g i).1 j).2 then (findG (findG g i).1 j).2 else (findG g i).2).toNat = root g i.toNat := by rw [if_neg (by omega)]; omega
      rw [ev, ek]
      refine ⟨⟨jr.1, by rw [List.length_set, hlen], fun k => ?_⟩, by simp [hne]⟩
      rw [jr.2, s2, Nat.max_eq_left (by omega), Nat.min_eq_right (by omega)]
/-- Who were of one group are so still; who are joined are. -/
theorem Joined.keep {g h : List Int} {i j : Int} (J : Joined g i j h) {a b : Nat} (e : root g a = root g b) : root h a = root h b := by rw [J.roots, J.roots, e]
theorem Joined.both {g h : List Int} {i j : Int} (J : Joined g i j h) : root h i.toNat = root h j.toNat := by
  rw [J.roots, J.roots]
  split <;> split <;> omega
theorem Joined.least {g h : List Int} {i j : Int} (J : Joined g i j h) {c : Nat → Nat} (hc : ∀ k, k < g.length → c (root g k) = c k) (hij : c i.toNat = c j.toNat) (hi : i.toNat < g.length) (hj : j.toNat < g.length) : ∀ k, k < h.length → c (root h k) = c k := by
  intro k hk
  rw [J.len] at hk
  have h1 := hc _ hi
  have h2 := hc _ hj
  rw [J.roots]
  split
  · rename_i he
    rw [← hc k hk, he]
    rcases Nat.le_total (root g i.toNat) (root g j.toNat) with h | h
    · rw [Nat.min_eq_left h, Nat.max_eq_right h, h1, h2, hij]
    · rw [Nat.min_eq_right h, Nat.max_eq_left h, h1, h2, hij]
  · exact hc k hk
def idG (n : Nat) : List Int := (List.range n).map fun k : Nat => (k : Int)
theorem idG_len (n : Nat) : (idG n).length = n := by simp [idG]
theorem idG_get {n k : Nat} (h : k < n) : (idG n).getD k 0 = (k : Int) := by simp [idG, List.getD, h]
theorem idG_uf (n : Nat) : UF (idG n) := ⟨fun k hk => by rw [idG_len] at hk; rw [idG_get hk]; omega⟩
theorem idG_root {n k : Nat} (h : k < n) : root (idG n) k = k := root_own (idG_uf n) (by rw [idG_len]; exact h) (idG_get h)
def idP (n i : Nat) : List Int := (List.range n).map fun k : Nat => if k < i then (k : Int) else 0
theorem idP_zero (n : Nat) : List.replicate n (0 : Int) = idP n 0 := by
  unfold idP
  refine List.ext_getElem (by simp) fun k h1 h2 => by simp
theorem idP_step {n i : Nat} (h : i < n) : (idP n i).set i (i : Int) = idP n (i + 1) := by
  unfold idP
  refine List.ext_getElem (by simp) fun k h1 h2 => ?_
  simp only [List.getElem_set, List.getElem_map, List.getElem_range]
  by_cases hk : i = k
  · subst hk; simp
  · rw [if_neg hk]
    by_cases h3 : k < i
    · rw [if_pos h3, if_pos (by omega)]
    · rw [if_neg h3, if_neg (by omega)]
theorem idP_all (n : Nat) : idP n n = idG n := by
  unfold idP idG
  refine List.ext_getElem (by simp) fun k h1 h2 => ?_
  simp only [List.getElem_map, List.getElem_range]
  rw [if_pos (by simpa using h1)]
theorem idP_len (n i : Nat) : (idP n i).length = n := by simp [idP]

theorem newGroups_fn (z : Int) (hz : 0 ≤ z ∧ z ≤ 1000000) : LiftsN Tryd.prog 51 [.i z] (.row 3 .int (idG z.toNat)) := by
  have hr : (List.replicate z.toNat (0 : Int)).length = z.toNat := List.length_replicate
  refine LiftsN.of_body 18 [.tmp 2] Tryd.func51 rfl Tryd.ntmps51 (by kernel_rfl) rfl rfl fun w0 X0 => ?_
  refine AWPD.seq fun K1 hK1 => ?_
  -- region 0
  refine AWPD.keep [0] rfl ?_
  refine AWPD.region tabOK rfl ?_
  refine hK1 _ _ ?_
  clear hK1
  refine AWPD.seq fun K2 hK2 => ?_
  -- region 1
  refine AWPD.keep [0] rfl ?_
  refine AWPD.region tabOK rfl ?_
  repeat refine And.intro (by first | exact fun h => h | exact fun _ => rfl | (intro h; rw [h]; rfl) | omega | (intros; (try dsimp only [Ty.T, Ty.size]); (try simp only [castL_self, Int.toNat_natCast, Int.toNat_zero, Int.toNat_one, true_and, List.length_append, List.length_set, List.length_drop, List.length_take, List.length_replicate, List.length_cons, List.length_nil, Nat.zero_add, Nat.mul_one]); omega) | decide | (intros; simp_all; done) | (intros; simp_all; omega)) ?_
  refine hK2 _ _ ?_
  clear hK2
  refine AWPD.seq fun K3 hK3 => ?_
  refine AWPD.seq fun K4 hK4 => ?_
  -- region 2
  refine AWPD.keep [3] rfl ?_
  refine AWPD.region tabOK rfl ?_
  refine hK4 _ _ ?_
  clear hK4
  refine AWPD.block ?_
  -- LOOP 0 live [3, 8, 9] changed [9]
  refine AWPD.loopK (σ := Nat) [8] (fun i base => (3, .ob 0) :: (9, .i (i : Int)) :: base) (fun i => [.row 3 .int (idP z.toNat i)]) (fun n i => n + i = z.toNat) (z.toNat) 0 [0] rfl rfl (by omega) (by decide) ⟨⟨rfl, rfl, idP_zero _⟩, trivial⟩ (by repeat' first | exact True.intro | exact rfl | exact ⟨rfl, rfl⟩ | refine And.intro ?_ ?_) fun n0 i hI0 => ?_
  have hn0 := hI0
  have hid := idP_len z.toNat i
  refine AWPD.seq fun K5 hK5 => ?_
  -- region 3
  refine AWPD.keep [3, 8, 9] rfl ?_
  refine AWPD.region tabOK rfl ?_
  refine hK5 _ _ ?_
  clear hK5
  refine AWPD.seq fun K6 hK6 => ?_
  first | refine AWPD.condP rfl (fun h0 => ?_) (fun h0 => ?_) | refine AWPD.condN rfl (fun h0 => ?_) (fun h0 => ?_) | refine AWPD.condAP rfl (fun h0 => ?_) (fun h0 => ?_) | refine AWPD.condOP rfl (fun h0 => ?_) (fun h0 => ?_) | refine AWPD.condONN rfl (fun h0 => ?_) (fun h0 => ?_) | refine AWPD.condOPN rfl (fun h0 => ?_) (fun h0 => ?_) | refine AWPD.condA rfl (fun h0 => ?_) (fun h0 => ?_) | refine AWPD.condO rfl (fun h0 => ?_) (fun h0 => ?_) | refine AWPD.cond rfl (fun h0 => ?_) (fun h0 => ?_)
  · try dsimp only [Ty.T] at h0
    try simp only [castL_self] at h0
    try simp only [Int.toNat_natCast] at h0
    try simp only [Int.toNat_zero] at h0
    refine AWPD.skip ?_
    refine hK6 _ _ ?_
    clear hK6
    refine AWPD.seq fun K7 hK7 => ?_
    refine AWPD.block ?_
    refine AWPD.seq fun K8 hK8 => ?_
    -- region 4
    refine AWPD.keep [3, 8, 9] rfl ?_
    refine AWPD.region tabOK rfl ?_
    refine hK8 _ _ ?_
    clear hK8
    -- region 5
    refine AWPD.keep [3, 4, 8, 9] rfl ?_
    refine AWPD.region tabOK rfl ?_
    repeat refine And.intro (by first | exact fun h => h | exact fun _ => rfl | (intro h; rw [h]; rfl) | omega | (intros; (try dsimp only [Ty.T, Ty.size]); (try simp only [castL_self, Int.toNat_natCast, Int.toNat_zero, Int.toNat_one, true_and, List.length_append, List.length_set, List.length_drop, List.length_take, List.length_replicate, List.length_cons, List.length_nil, Nat.zero_add, Nat.mul_one]); omega) | decide | (intros; simp_all; done) | (intros; simp_all; omega)) ?_
    refine hK7 _ _ ?_
    clear hK7
    -- region 6
    refine AWPD.keep [3, 8, 9] rfl ?_
    refine AWPD.region tabOK rfl ?_
    repeat refine And.intro (by first | exact fun h => h | exact fun _ => rfl | (intro h; rw [h]; rfl) | omega | (intros; (try dsimp only [Ty.T, Ty.size]); (try simp only [castL_self, Int.toNat_natCast, Int.toNat_zero, Int.toNat_one, true_and, List.length_append, List.length_set, List.length_drop, List.length_take, List.length_replicate, List.length_cons, List.length_nil, Nat.zero_add, Nat.mul_one]); omega) | decide | (intros; simp_all; done) | (intros; simp_all; omega)) ?_
    refine ⟨n0 - 1, i + 1, [0], by omega, by omega, ⟨by decide, rfl⟩, ⟨⟨rfl, rfl, idP_step (by omega)⟩, trivial⟩, ?_⟩
    repeat' first | exact True.intro | exact rfl | exact ⟨rfl, rfl⟩ | refine And.intro ?_ ?_
  · try dsimp only [Ty.T] at h0
    try simp only [castL_self] at h0
    try simp only [Int.toNat_natCast] at h0
    try simp only [Int.toNat_zero] at h0
    refine AWPD.exit ?_
    refine hK3 _ _ ?_
    clear hK3
    refine AWPD.seq fun K9 hK9 => ?_
    -- region 7
    refine AWPD.keep [3] rfl ?_
    refine AWPD.region tabOK rfl ?_
    refine hK9 _ _ ?_
    clear hK9
    refine AWPD.ret (And.intro (.inl rfl) ?_)
    -- result 0
    have e : i = z.toNat := by omega
    exact ⟨_, 0, rfl, rfl, by show some (OD.row _ Ty.int (idP z.toNat i)) = some (OD.row _ Ty.int (idG z.toNat)); rw [e, idP_all], row_free _ _ _⟩

/-- What is found of a row, so far; its numbering. -/
def qAt (τ : Ty) (l : List τ.T) : Nat → List τ.T
  | 0 => []
  | i + 1 => qAdd τ (List.getD l i (dT τ)) (qAt τ l i)
def numQ (τ : Ty) (l : List τ.T) (i : Nat) : List Int := (List.range i).map fun j => qIdx τ (List.getD l j (dT τ)) (qAt τ l j)
theorem qAt_len (τ : Ty) (l : List τ.T) : ∀ i, (qAt τ l i).length ≤ i
  | 0 => by simp [qAt]
  | i + 1 => by
    have := qAt_len τ l i
    unfold qAt qAdd
    split
    · omega
    · rw [List.length_append]; simp; omega
theorem numQ_len (τ : Ty) (l : List τ.T) (i : Nat) : (numQ τ l i).length = i := by simp [numQ]
theorem numQ_step (τ : Ty) (l : List τ.T) (i : Nat) : numQ τ l i ++ [qIdx τ (List.getD l i (dT τ)) (qAt τ l i)] = numQ τ l (i + 1) := by
  unfold numQ
  rw [List.range_succ, List.map_append]; rfl
theorem numQ_get (τ : Ty) (l : List τ.T) {i j : Nat} (h : j < i) : (numQ τ l i).getD j 0 = qIdx τ (List.getD l j (dT τ)) (qAt τ l j) := by simp [numQ, List.getD, h]
/-- As the numbering is laid into a row made beforehand. -/
def numP (τ : Ty) (l : List τ.T) (n i : Nat) : List Int := numQ τ l i ++ List.replicate (n - i) 0
theorem numP_step (τ : Ty) (l : List τ.T) {n i : Nat} (h : i < n) : (numP τ l n i).set i (qIdx τ (List.getD l i (dT τ)) (qAt τ l i)) = numP τ l n (i + 1) := by
  unfold numP
  rw [← numQ_step, List.set_append_right _ _ (by rw [numQ_len]; omega), numQ_len, Nat.sub_self, show n - i = (n - (i + 1)) + 1 by omega, List.replicate_succ, List.set_cons_zero, List.append_assoc]
  rfl
theorem numP_len (τ : Ty) (l : List τ.T) {n i : Nat} (h : i ≤ n) : (numP τ l n i).length = n := by
  unfold numP
  rw [List.length_append, numQ_len, List.length_replicate]; omega
theorem numP_all (τ : Ty) (l : List τ.T) (n : Nat) : numP τ l n n = numQ τ l n := by simp [numP]
def gN (g : List Int) : Nat → List Int
  | 0 => g
  | i + 1 => (findG (gN g i) (i : Int)).1
def rootsL (g : List Int) : List Int := (List.range g.length).map fun k : Nat => ((root g k : Nat) : Int)
theorem rootsL_get {g : List Int} {k : Nat} (h : k < g.length) : (rootsL g).getD k 0 = ((root g k : Nat) : Int) := by simp [rootsL, List.getD, h]
theorem gN_ok {g : List Int} (u : UF g) : ∀ i, i ≤ g.length → UF (gN g i) ∧ (gN g i).length = g.length ∧ ∀ k, root (gN g i) k = root g k
  | 0, _ => ⟨u, rfl, fun _ => rfl⟩
  | i + 1, h => by
    obtain ⟨h1, h2, h3⟩ := gN_ok u i (by omega)
    have f := findG_ok h1 (i := (i : Int)) (by omega) (by rw [h2]; omega)
    exact ⟨f.uf, by rw [gN, f.len, h2], fun k => by rw [gN, f.same, h3]⟩
theorem gN_val {g : List Int} (u : UF g) {i : Nat} (h : i < g.length) : (findG (gN g i) (i : Int)).2 = (rootsL g).getD i 0 := by
  obtain ⟨h1, h2, h3⟩ := gN_ok u i (by omega)
  have f := findG_ok h1 (i := (i : Int)) (by omega) (by rw [h2]; omega)
  rw [f.is_, h3, rootsL_get h, Int.toNat_natCast]
def namesG (g : List Int) : List Int := numQ .int (rootsL g) g.length

theorem names_fn (g : List Int) (u : UF g) (hg : g.length ≤ 1000000) : LiftsO Tryd.prog 57 [.ob 0] (.row 3 .int g) (.sl .int (namesG g)) (.row 3 .int (gN g g.length)) := by
  refine LiftsO.of_bodyX 26 [.tmp 2] Tryd.func57 rfl Tryd.ntmps57 (by kernel_rfl) rfl rfl fun w0 X0 F0 x0 => ?_
  refine AWPD.seq fun K1 hK1 => ?_
  -- region 0
  refine AWPD.keep [0] rfl ?_
  refine AWPD.region tabOK rfl ?_
  refine hK1 _ _ ?_
  clear hK1
  refine AWPD.seq fun K2 hK2 => ?_
  -- region 1
  refine AWPD.keep [0] rfl ?_
  refine AWPD.region tabOK rfl ?_
  refine hK2 _ _ ?_
  clear hK2
  refine AWPD.seq fun K3 hK3 => ?_
  -- region 2
  refine AWPD.keep [0, 3] rfl ?_
  refine AWPD.region tabOK rfl ?_
  repeat refine And.intro (by first | exact fun h => h | exact fun _ => rfl | (intro h; rw [h]; rfl) | omega | (intros; (try dsimp only [Ty.T, Ty.size]); (try simp only [castL_self, Int.toNat_natCast, Int.toNat_zero, Int.toNat_one, true_and, List.length_append, List.length_set, List.length_drop, List.length_take, List.length_replicate, List.length_cons, List.length_nil, Nat.zero_add, Nat.mul_one]); omega) | decide | (intros; simp_all; done) | (intros; simp_all; omega)) ?_
  refine hK3 _ _ ?_
  clear hK3
  refine AWPD.seq fun K4 hK4 => ?_
  refine AWPD.seq fun K5 hK5 => ?_
  -- region 3
  refine AWPD.keep [0, 3, 4] rfl ?_
  refine AWPD.region tabOK rfl ?_
  refine hK5 _ _ ?_
  clear hK5
  refine AWPD.block ?_
  -- LOOP 0 live [0, 3, 4, 10, 11] changed [11]
  refine AWPD.newQ 1 3 .int rfl ?_
  refine AWPD.loopK (σ := Nat) [10] (fun i base => (0, .ob 0) :: (3, .op 1 0) :: (4, .ob 2) :: (11, .i (i : Int)) :: base) (fun i => [.row 3 .int (gN g i), .que 76 3 .int (qAt .int (rootsL g) i), .row 3 .int (numP .int (rootsL g) g.length i)]) (fun n i => n + i = g.length) (g.length) 0 [0, 1, 2] rfl rfl (by omega) (by decide) ⟨⟨rfl, rfl, rfl⟩, rfl, ⟨rfl, rfl, (by simp [numP, numQ]; rfl)⟩, trivial⟩ (by repeat' first | exact True.intro | exact rfl | exact ⟨rfl, rfl⟩ | refine And.intro ?_ ?_) fun n0 i hI0 => ?_
  have hn0 := hI0
  have hql := qAt_len .int (rootsL g) i
  refine AWPD.seq fun K6 hK6 => ?_
  -- region 4
  refine AWPD.keep [0, 3, 4, 10, 11] rfl ?_
  refine AWPD.region tabOK rfl ?_
  refine hK6 _ _ ?_
  clear hK6
  refine AWPD.seq fun K7 hK7 => ?_
  first | refine AWPD.condP rfl (fun h0 => ?_) (fun h0 => ?_) | refine AWPD.condN rfl (fun h0 => ?_) (fun h0 => ?_) | refine AWPD.condAP rfl (fun h0 => ?_) (fun h0 => ?_) | refine AWPD.condOP rfl (fun h0 => ?_) (fun h0 => ?_) | refine AWPD.condONN rfl (fun h0 => ?_) (fun h0 => ?_) | refine AWPD.condOPN rfl (fun h0 => ?_) (fun h0 => ?_) | refine AWPD.condA rfl (fun h0 => ?_) (fun h0 => ?_) | refine AWPD.condO rfl (fun h0 => ?_) (fun h0 => ?_) | refine AWPD.cond rfl (fun h0 => ?_) (fun h0 => ?_)
  · try dsimp only [Ty.T] at h0
    try simp only [castL_self] at h0
    try simp only [Int.toNat_natCast] at h0
    try simp only [Int.toNat_zero] at h0
    obtain ⟨ug, hgl, hgr⟩ := gN_ok u i (by omega)
    have hgv := gN_val u (i := i) (by omega)
    have hpl := numP_len .int (rootsL g) (n := g.length) (i := i) (by omega)
    refine AWPD.skip ?_
    refine hK7 _ _ ?_
    clear hK7
    refine AWPD.seq fun K8 hK8 => ?_
    refine AWPD.block ?_
    refine AWPD.seq fun K9 hK9 => ?_
    -- region 5
    refine AWPD.keep [0, 3, 4, 10, 11] rfl ?_
    refine AWPD.region tabOK rfl ?_
    refine hK9 _ _ ?_
    clear hK9
    -- region 6
    refine AWPD.keep [0, 3, 4, 5, 10, 11] rfl ?_
    refine AWPD.region tabOK rfl ?_
    refine Exists.intro _ (Exists.intro _ (And.intro (StepD.callO (i := 0) (find_fn (gN g i) (i : Int) ug (by omega) (by rw [hgl]; omega) (by omega)) rfl rfl rfl rfl (by first | exact rfl | exact row_free _ _ _) (by first | exact rfl | exact row_free _ _ _)) (And.intro rfl (And.intro trivial ?_))))
    refine Exists.intro _ (Exists.intro _ (And.intro (StepD.callO (i := 1) (addI_fn _ _ (by omega)) rfl rfl rfl rfl (by first | exact rfl | exact row_free _ _ _) (by first | exact rfl | exact row_free _ _ _)) (And.intro rfl (And.intro trivial ?_))))
    repeat refine And.intro (by first | exact fun h => h | exact fun _ => rfl | (intro h; rw [h]; rfl) | omega | (intros; (try dsimp only [Ty.T, Ty.size]); (try simp only [castL_self, Int.toNat_natCast, Int.toNat_zero, Int.toNat_one, true_and, List.length_append, List.length_set, List.length_drop, List.length_take, List.length_replicate, List.length_cons, List.length_nil, Nat.zero_add, Nat.mul_one]); omega) | decide | (intros; simp_all; done) | (intros; simp_all; omega)) ?_
    refine hK8 _ _ ?_
    clear hK8
    -- region 7
    refine AWPD.keep [0, 3, 4, 10, 11] rfl ?_
    refine AWPD.region tabOK rfl ?_
    repeat refine And.intro (by first | exact fun h => h | exact fun _ => rfl | (intro h; rw [h]; rfl) | omega | (intros; (try dsimp only [Ty.T, Ty.size]); (try simp only [castL_self, Int.toNat_natCast, Int.toNat_zero, Int.toNat_one, true_and, List.length_append, List.length_set, List.length_drop, List.length_take, List.length_replicate, List.length_cons, List.length_nil, Nat.zero_add, Nat.mul_one]); omega) | decide | (intros; simp_all; done) | (intros; simp_all; omega)) ?_
    refine ⟨n0 - 1, i + 1, [0, 1, 2], by omega, by omega, ⟨by decide, rfl⟩, ⟨⟨rfl, rfl, rfl⟩, (by show queR _ _ _ _ = queR _ _ _ _; rw [hgv]; rfl), ⟨rfl, rfl, (by rw [hgv]; exact numP_step .int (rootsL g) (by omega))⟩, trivial⟩, ?_⟩
    repeat' first | exact True.intro | exact rfl | exact ⟨rfl, rfl⟩ | refine And.intro ?_ ?_
  · try dsimp only [Ty.T] at h0
    try simp only [castL_self] at h0
    try simp only [Int.toNat_natCast] at h0
    try simp only [Int.toNat_zero] at h0
    refine AWPD.exit ?_
    refine hK4 _ _ ?_
    clear hK4
    refine AWPD.seq fun K10 hK10 => ?_
    -- region 8
    refine AWPD.keep [4] rfl ?_
    refine AWPD.region tabOK rfl ?_
    refine hK10 _ _ ?_
    clear hK10
    refine AWPD.ret (And.intro (.inl rfl) ?_)
    -- result 0
    refine ⟨⟨by decide, _, _, _, rfl, by rw [show i = g.length by omega, numP_all]; rfl⟩, by rw [show g.length = i by omega]; rfl⟩
end Go.Proofs.YtndoigkmdcgjfaaDoor
