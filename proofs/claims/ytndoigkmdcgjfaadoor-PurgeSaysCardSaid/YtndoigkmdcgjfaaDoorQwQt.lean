/-
  WALKS of whether a part sees nothing of what is purged. Laid by a program of mine out of the operations, with the loops and results told by hand.
-/
import Derived.Test.YtndoigkmdcgjfaaDoorQwRe
namespace Go.Proofs.YtndoigkmdcgjfaaDoor
open Go Go.Qw
set_option maxRecDepth 10000
set_option linter.unusedSimpArgs false
set_option linter.unusedVariables false
set_option linter.unusedSectionVars false


abbrev Pr := Int × Int
def nxtP (N : List (List Int)) (A f : List Int) (part : Int) (x : Pr) (a : Nat) : Pr := ((N.getD x.1.toNat []).getD a 0, if actOn A f part (a : Int) = true then (N.getD x.2.toNat []).getD a 0 else x.2)
abbrev QS := List Pr × List Int × List Int
/-- The queue, from where each came, and by which act, behind so many acts of one pair. -/
def quI (N : List (List Int)) (A f : List Int) (part : Int) (q0 : List Pr) (at_ : Nat) (s : QS) : Nat → QS
  | 0 => s
  | k + 1 => (qAdd .two (nxtP N A f part (q0.getD at_ (0, 0)) k) (quI N A f part q0 at_ s k).1,
      bif qNew .two (nxtP N A f part (q0.getD at_ (0, 0)) k) (quI N A f part q0 at_ s k).1 then (quI N A f part q0 at_ s k).2.1 ++ [(at_ : Int)] else (quI N A f part q0 at_ s k).2.1,
      bif qNew .two (nxtP N A f part (q0.getD at_ (0, 0)) k) (quI N A f part q0 at_ s k).1 then (quI N A f part q0 at_ s k).2.2 ++ [(k : Int)] else (quI N A f part q0 at_ s k).2.2)
def quO (N : List (List Int)) (A f : List Int) (part : Int) : Nat → QS
  | 0 => (qAdd .two (0, 0) [], [-1], [0])
  | k + 1 => quI N A f part (quO N A f part k).1 k (quO N A f part k) A.length
def badP (S : List (List Int)) (part : Int) (x : Pr) : Bool := decide ((S.getD x.1.toNat []).getD part.toNat 0 ≠ (S.getD x.2.toNat []).getD part.toNat 0)
def quBad (N : List (List Int)) (A f : List Int) (part : Int) (S : List (List Int)) (k : Nat) : Bool := badP S part ((quO N A f part k).1.getD k (0, 0))
def stopB (f : Nat → Nat) (b : Nat → Bool) : Nat → Nat → Nat
  | 0, k => k
  | n + 1, k => if k < f k then (if b k = true then k else stopB f b n (k + 1)) else k
def quEnd (N : List (List Int)) (A f : List Int) (part : Int) (S : List (List Int)) : Nat := stopB (fun k => (quO N A f part k).1.length) (quBad N A f part S) 257 0
def quietB (N : List (List Int)) (A f : List Int) (part : Int) (S : List (List Int)) : Bool := decide ((quO N A f part (quEnd N A f part S)).1.length ≤ quEnd N A f part S)
/-- The acts back to the first pair, the last one first. -/
def traceF (fr ac : List Int) : Nat → Nat → List Int
  | 0, _ => []
  | n + 1, k => if k = 0 then [] else ac.getD k 0 :: traceF fr ac n (fr.getD k 0).toNat
def quPath (N : List (List Int)) (A f : List Int) (part : Int) (k : Nat) : List Int := (traceF (quO N A f part k).2.1 (quO N A f part k).2.2 k k).reverse
def quietV (P : Int) (A : List Int) (N S : List (List Int)) (f : List Int) (part : Int) : Bool := if chkE P A N S f part = 0 then quietB N A f part S else false
def quietW (P : Int) (A : List Int) (N S : List (List Int)) (f : List Int) (part : Int) : List Int := if chkE P A N S f part = 0 ∧ quietB N A f part S = false then quPath N A f part (quEnd N A f part S) else []
theorem idx_two (x : Pr) : ∀ (xs : List Pr) (k : Nat), (idxK .two x xs k).isSome = true ↔ x ∈ xs
  | [], k => by simp [idxK]
  | y :: ys, k => by
    have ih := idx_two x ys (k + 1)
    rw [idxK]
    by_cases h : x = y
    · subst h; simp
    · rw [if_neg (fun e => h (by simp only [keyL, List.cons.injEq, and_true] at e; exact Prod.ext e.1 e.2)), ih]
      simp [h]
theorem pAdd_or (x : Pr) (xs : List Pr) : (qAdd .two x xs = xs ∧ x ∈ xs ∧ qNew .two x xs = false) ∨ (qAdd .two x xs = xs ++ [x] ∧ x ∉ xs ∧ qNew .two x xs = true) := by
  unfold qAdd qNew
  by_cases h : (idxK .two x xs 0).isSome = true
  · exact .inl ⟨if_pos h, (idx_two x xs 0).1 h, by cases hh : idxK .two x xs 0 with | none => rw [hh] at h; cases h | some k => rfl⟩
  · exact .inr ⟨if_neg h, fun hm => h ((idx_two x xs 0).2 hm), by cases hh : idxK .two x xs 0 with | none => rfl | some k => rw [hh] at h; exact absurd rfl h⟩
theorem few_pairs {n : Nat} (hn : n ≤ 16) {xs : List Pr} (hd : xs.Nodup) (h : ∀ x ∈ xs, 0 ≤ x.1 ∧ x.1 < (n : Int) ∧ 0 ≤ x.2 ∧ x.2 < (n : Int)) : xs.length ≤ 256 := by
  have h1 : (xs.map fun x => x.1 * 16 + x.2).Nodup := by
    refine List.pairwise_map.2 (List.Pairwise.imp_of_mem (fun {a b} ha hb hne e => ?_) hd)
    have h1 := h a ha
    have h2 := h b hb
    exact hne (Prod.ext (by omega) (by omega))
  have := few_apart 256 _ h1 fun x hx => by
    obtain ⟨y, hy, rfl⟩ := List.mem_map.1 hx
    have := h y hy
    omega
  simpa using this
structure QOK (N : List (List Int)) (s : QS) : Prop where
  l1 : s.2.1.length = s.1.length
  l2 : s.2.2.length = s.1.length
  apart : s.1.Nodup
  rng : ∀ x ∈ s.1, 0 ≤ x.1 ∧ x.1 < (N.length : Int) ∧ 0 ≤ x.2 ∧ x.2 < (N.length : Int)
  back : ∀ k, 0 < k → k < s.1.length → 0 ≤ s.2.1.getD k 0 ∧ s.2.1.getD k 0 < (k : Int)
theorem QOK.few {N : List (List Int)} {s : QS} (h : QOK N s) (hn : N.length ≤ 16) : s.1.length ≤ 256 := few_pairs hn h.apart h.rng
theorem getD_snoc {l : List Int} {x : Int} {k : Nat} : (l ++ [x]).getD k 0 = if k < l.length then l.getD k 0 else if k = l.length then x else 0 := by
  simp only [List.getD]
  by_cases h : k < l.length
  · rw [if_pos h, List.getElem?_append_left h]
  · rw [if_neg h, List.getElem?_append_right (by omega)]
    by_cases h2 : k = l.length
    · subst h2; simp
    · rw [if_neg h2, List.getElem?_eq_none (by simp; omega)]; rfl
theorem QOK.step {N : List (List Int)} {s : QS} (h : QOK N s) {y : Pr} {at_ : Nat} (hat : at_ < s.1.length) (k : Nat) (hy : 0 ≤ y.1 ∧ y.1 < (N.length : Int) ∧ 0 ≤ y.2 ∧ y.2 < (N.length : Int)) :
    QOK N (qAdd .two y s.1, bif qNew .two y s.1 then s.2.1 ++ [(at_ : Int)] else s.2.1, bif qNew .two y s.1 then s.2.2 ++ [(k : Int)] else s.2.2) := by
  have h1 := h.l1
  have h2 := h.l2
  rcases pAdd_or y s.1 with ⟨e1, e2, e3⟩ | ⟨e1, e2, e3⟩
  · rw [e1, e3]
    exact h
  · rw [e1, e3]
    simp only [cond_true]
    refine ⟨by simp [h1], by simp [h2], ?_, fun x hx => ?_, fun j hj hl => ?_⟩
    · rw [List.nodup_append]
      exact ⟨h.apart, by simp, fun a ha b hb e => e2 (by rw [List.mem_singleton] at hb; rw [← hb, ← e]; exact ha)⟩
    · rcases List.mem_append.1 hx with hx | hx
      · exact h.rng x hx
      · rw [List.mem_singleton.1 hx]; exact hy
    · simp only [List.length_append, List.length_cons, List.length_nil] at hl
      show 0 ≤ (s.2.1 ++ [(at_ : Int)]).getD j 0 ∧ (s.2.1 ++ [(at_ : Int)]).getD j 0 < (j : Int)
      rw [getD_snoc]
      split
      · exact h.back j hj (by omega)
      · rw [if_pos (by omega)]
        omega
theorem pAdd_pre (x : Pr) (xs : List Pr) : xs <+: qAdd .two x xs := by
  rcases pAdd_or x xs with ⟨h, _⟩ | ⟨h, _⟩
  · rw [h]; exact List.prefix_rfl
  · rw [h]; exact List.prefix_append ..
theorem quI_pre (N : List (List Int)) (A f : List Int) (part : Int) (q0 : List Pr) (at_ : Nat) (s : QS) : ∀ k, s.1 <+: (quI N A f part q0 at_ s k).1
  | 0 => List.prefix_rfl
  | k + 1 => (quI_pre N A f part q0 at_ s k).trans (pAdd_pre _ _)
theorem quO_pre (N : List (List Int)) (A f : List Int) (part : Int) (k : Nat) : (quO N A f part k).1 <+: (quO N A f part (k + 1)).1 := quI_pre N A f part _ k _ A.length
structure GoodC (P : Int) (A : List Int) (N S : List (List Int)) (f : List Int) (part : Int) : Prop where
  m : GoodM P A N S
  he : machE P A N S = 0
  f : GoodF P f
  part : 0 ≤ part ∧ part ≤ P - 1
theorem chk_good {P : Int} {A : List Int} {N S : List (List Int)} {f : List Int} {part : Int} (h : chkE P A N S f part = 0) : GoodC P A N S f part := by
  obtain ⟨h2, h3⟩ := chk_ok h
  obtain ⟨h4, h5⟩ := pol_ok h2
  exact ⟨mach_good h4, h4, h5, h3⟩
theorem GoodC.act {P : Int} {A : List Int} {N S : List (List Int)} {f : List Int} {part : Int} (g : GoodC P A N S f part) {a : Nat} (ha : a < A.length) :
    0 ≤ A.getD a 0 ∧ (A.getD a 0).toNat < f.length ∧ 0 ≤ f.getD (A.getD a 0).toNat 0 ∧ f.getD (A.getD a 0).toNat 0 ≤ 31 := by
  have h2 := g.m.acts a ha
  have h3 := g.m.parts
  have h4 := g.f.len
  have h6 := g.f.in_ (by omega) (i := (A.getD a 0).toNat) (by omega)
  exact ⟨h2.1, by omega, h6.1, h6.2.1⟩
theorem GoodC.nxt {P : Int} {A : List Int} {N S : List (List Int)} {f : List Int} {part : Int} (g : GoodC P A N S f part) {x : Pr} (hx : 0 ≤ x.1 ∧ x.1 < (N.length : Int) ∧ 0 ≤ x.2 ∧ x.2 < (N.length : Int)) {a : Nat} (ha : a < A.length) :
    0 ≤ (nxtP N A f part x a).1 ∧ (nxtP N A f part x a).1 < (N.length : Int) ∧ 0 ≤ (nxtP N A f part x a).2 ∧ (nxtP N A f part x a).2 < (N.length : Int) := by
  have r1 := g.m.rowN x.1.toNat (by omega)
  have r2 := g.m.rowN x.2.toNat (by omega)
  have n1 := g.m.next x.1.toNat (by omega) a (by omega)
  have n2 := g.m.next x.2.toNat (by omega) a (by omega)
  simp only [nxtP]
  refine ⟨n1.1, by omega, ?_, ?_⟩ <;> split <;> omega
theorem GoodC.quI_ok {P : Int} {A : List Int} {N S : List (List Int)} {f : List Int} {part : Int} (g : GoodC P A N S f part) {s : QS} (h : QOK N s) {at_ : Nat} (hat : at_ < s.1.length) : ∀ k, k ≤ A.length → QOK N (quI N A f part s.1 at_ s k)
  | 0, _ => h
  | k + 1, hk => by
    have ih := g.quI_ok h hat k (by omega)
    have hp := (quI_pre N A f part s.1 at_ s k).length_le
    exact ih.step (by omega) k (g.nxt (h.rng _ (getD_mem hat _)) (by omega))
theorem quO_ok0 {P : Int} {A : List Int} {N S : List (List Int)} {f : List Int} {part : Int} (g : GoodC P A N S f part) : QOK N (quO N A f part 0) := by
  have := g.m.some
  refine ⟨rfl, rfl, by simp [quO, qAdd, idxK], fun x hx => ?_, fun k h1 h2 => ?_⟩
  · have : x = (0, 0) := by simpa [quO, qAdd, idxK] using hx
    subst this
    simp; omega
  · simp [quO, qAdd, idxK] at h2; omega
theorem nxt_yes {N : List (List Int)} {A f : List Int} {part : Int} {x : Pr} {a : Nat} (h : actOn A f part (a : Int) = true) : nxtP N A f part x a = ((N.getD x.1.toNat []).getD a 0, (N.getD x.2.toNat []).getD a 0) := by unfold nxtP; rw [if_pos h]
theorem nxt_no {N : List (List Int)} {A f : List Int} {part : Int} {x : Pr} {a : Nat} (h : ¬actOn A f part (a : Int) = true) : nxtP N A f part x a = ((N.getD x.1.toNat []).getD a 0, x.2) := by unfold nxtP; rw [if_neg h]
theorem QOK.sees {P : Int} {A : List Int} {N S : List (List Int)} {f : List Int} {part : Int} (g : GoodC P A N S f part) {s : QS} (h : QOK N s) {k : Nat} (hk : k < s.1.length) : 0 ≤ (s.1.getD k (0, 0)).1 ∧ (s.1.getD k (0, 0)).1 < (N.length : Int) ∧ 0 ≤ (s.1.getD k (0, 0)).2 ∧ (s.1.getD k (0, 0)).2 < (N.length : Int) ∧
    ((S.getD (s.1.getD k (0, 0)).1.toNat []).length : Int) = P ∧ ((S.getD (s.1.getD k (0, 0)).2.toNat []).length : Int) = P ∧ (N.getD (s.1.getD k (0, 0)).1.toNat []).length = A.length ∧ (N.getD (s.1.getD k (0, 0)).2.toNat []).length = A.length ∧ S.length = N.length := by
  have hr := h.rng _ (getD_mem hk (0, 0))
  exact ⟨hr.1, hr.2.1, hr.2.2.1, hr.2.2.2, g.m.rowS _ (by omega), g.m.rowS _ (by omega), g.m.rowN _ (by omega), g.m.rowN _ (by omega), g.m.lenS⟩
theorem trace_step {fr ac : List Int} {n k : Nat} (hk : 0 < k) : traceF fr ac (n + 1) k = ac.getD k 0 :: traceF fr ac n (fr.getD k 0).toNat := by rw [traceF, if_neg (by omega)]

theorem reverse_fn (xs : List Int) (hx : xs.length ≤ 4611686018427387904) : LiftsO Tryd.prog 67 [.ob 0] (.row 3 .int xs) (.tup []) (.row 3 .int xs.reverse) := by
  refine LiftsO.of_body 28 [] Tryd.func67 rfl Tryd.ntmps67 (by kernel_rfl) rfl rfl fun w0 X0 F0 x0 => ?_
  refine AWPD.seq fun K1 hK1 => ?_
  -- region 0
  refine AWPD.keep [0] rfl ?_
  refine AWPD.region tabOK rfl ?_
  repeat refine And.intro (by first | exact fun h => h | exact fun _ => rfl | (intro h; rw [h]; rfl) | omega | (intros; (try dsimp only [Ty.T, Ty.size]); (try simp only [castL_self, Int.toNat_natCast, Int.toNat_zero, Int.toNat_one, true_and, List.length_append, List.length_set, List.length_drop, List.length_take, List.length_replicate, List.length_cons, List.length_nil, Nat.zero_add, Nat.mul_one]); omega) | decide | (intros; simp_all; done) | (intros; simp_all; omega)) ?_
  refine hK1 _ _ ?_
  clear hK1
  refine AWPD.block ?_
  -- LOOP 0 live [0, 2, 3] changed [2, 3]
  refine AWPD.loopK (σ := Nat) [] (fun j base => (0, .ob 0) :: (2, .i (j : Int)) :: (3, .i ((xs.length : Int) - 1 - (j : Int))) :: base) (fun j => [.row 3 .int (revN xs j)]) (fun n j => n + j = xs.length) (xs.length) 0 [0] rfl rfl (by omega) (by decide) ⟨⟨rfl, rfl, by rw [revN_zero]; rfl⟩, trivial⟩ (by repeat' first | (show (xs.length : Int) - 1 = (xs.length : Int) - 1 - ((0 : Nat) : Int); omega) | exact True.intro | exact rfl | exact ⟨rfl, rfl⟩ | refine And.intro ?_ ?_) fun n0 j hI0 => ?_
  have hn0 := hI0
  refine AWPD.seq fun K2 hK2 => ?_
  refine AWPD.seq fun K3 hK3 => ?_
  -- region 1
  refine AWPD.keep [0, 2, 3] rfl ?_
  refine AWPD.region tabOK rfl ?_
  refine hK3 _ _ ?_
  clear hK3
  first | refine AWPD.condP rfl (fun h0 => ?_) (fun h0 => ?_) | refine AWPD.condN rfl (fun h0 => ?_) (fun h0 => ?_) | refine AWPD.condAP rfl (fun h0 => ?_) (fun h0 => ?_) | refine AWPD.condOP rfl (fun h0 => ?_) (fun h0 => ?_) | refine AWPD.condONN rfl (fun h0 => ?_) (fun h0 => ?_) | refine AWPD.condOPN rfl (fun h0 => ?_) (fun h0 => ?_) | refine AWPD.condA rfl (fun h0 => ?_) (fun h0 => ?_) | refine AWPD.condO rfl (fun h0 => ?_) (fun h0 => ?_) | refine AWPD.cond rfl (fun h0 => ?_) (fun h0 => ?_)
  · try dsimp only [Ty.T] at h0
    try simp only [castL_self] at h0
    try simp only [Int.toNat_natCast] at h0
    try simp only [Int.toNat_zero] at h0
    refine AWPD.skip ?_
    refine hK2 _ _ ?_
    clear hK2
    refine AWPD.seq fun K4 hK4 => ?_
    refine AWPD.block ?_
    -- region 3
    have hrl := revN_len xs j
    have hjx : ((xs.length : Int) - 1 - (j : Int)).toNat = xs.length - 1 - j := by omega
    refine AWPD.keep [0, 2, 3] rfl ?_
    refine AWPD.draw tabOK [13, 15] rfl (by kernel_rfl) ?_
    repeat refine And.intro (by first | exact fun h => h | exact fun _ => rfl | (intro h; rw [h]; rfl) | omega | (intros; (try dsimp only [Ty.T, Ty.size]); (try simp only [castL_self, Int.toNat_natCast, Int.toNat_zero, Int.toNat_one, true_and, List.length_append, List.length_set, List.length_drop, List.length_take, List.length_replicate, List.length_cons, List.length_nil, Nat.zero_add, Nat.mul_one]); omega) | decide | (intros; simp_all; done) | (intros; simp_all; omega)) ?_
    refine hK4 _ _ ?_
    clear hK4
    -- region 2
    refine AWPD.keep [0, 2, 3] rfl ?_
    refine AWPD.region tabOK rfl ?_
    repeat refine And.intro (by first | exact fun h => h | exact fun _ => rfl | (intro h; rw [h]; rfl) | omega | (intros; (try dsimp only [Ty.T, Ty.size]); (try simp only [castL_self, Int.toNat_natCast, Int.toNat_zero, Int.toNat_one, true_and, List.length_append, List.length_set, List.length_drop, List.length_take, List.length_replicate, List.length_cons, List.length_nil, Nat.zero_add, Nat.mul_one]); omega) | decide | (intros; simp_all; done) | (intros; simp_all; omega)) ?_
    refine ⟨n0 - 1, j + 1, [0], by omega, by omega, ⟨by decide, rfl⟩, ⟨⟨rfl, rfl, by show ((revN xs j).set j ((revN xs j).getD ((xs.length : Int) - 1 - (j : Int)).toNat 0)).set ((xs.length : Int) - 1 - (j : Int)).toNat ((revN xs j).getD j 0) = _; rw [hjx]; exact revN_step (by omega)⟩, trivial⟩, ?_⟩
    repeat' first | (show (xs.length : Int) - 1 - (j : Int) - 1 = (xs.length : Int) - 1 - ((j + 1 : Nat) : Int); omega) | exact True.intro | exact rfl | exact ⟨rfl, rfl⟩ | refine And.intro ?_ ?_
  · try dsimp only [Ty.T] at h0
    try simp only [castL_self] at h0
    try simp only [Int.toNat_natCast] at h0
    try simp only [Int.toNat_zero] at h0
    refine AWPD.exit ?_
    refine And.intro (.inr rfl) ?_
    -- result 0
    exact ⟨rfl, FoldO.at0 (o' := .row 3 .int xs.reverse) (by show some (OD.row _ .int (revN xs j)) = some (OD.row _ .int xs.reverse); rw [revN_end (by omega)]) (row_free _ _ _)⟩
theorem quiet_fn (P : Int) (A : List Int) (N S : List (List Int)) (f : List Int) (part : Int) : LiftsD Tryd.prog 27 [.agg [.i P, .sl .int A, .sl (.sl .int) N, .sl (.sl .int) S], .sl .int f, .i part] (.tup [.b (quietV P A N S f part), .sl .int (quietW P A N S f part), .er 81 (chkE P A N S f part)]) := by
  refine LiftsD.of_body 127 [.tmp 6, .tmp 7, .tmp 8] Tryd.func27 rfl Tryd.ntmps27 (by kernel_rfl) rfl rfl fun w0 X0 => ?_
  refine AWPD.seq fun K1 hK1 => ?_
  -- region 0
  refine AWPD.keep [0, 1, 2] rfl ?_
  refine AWPD.region (tabOK.own [31, 32]) rfl ?_
  refine hK1 _ _ ?_
  clear hK1
  refine AWPD.seq fun K2 hK2 => ?_
  refine AWPD.seq fun K3 hK3 => ?_
  -- region 1
  refine AWPD.keep [1, 2, 3] rfl ?_
  refine AWPD.region (tabOK.own [31, 32]) rfl ?_
  repeat refine And.intro (by first | exact fun h => h | exact fun _ => rfl | (intro h; rw [h]; rfl) | omega | (intros; (try dsimp only [Ty.T, Ty.size]); (try simp only [castL_self, Int.toNat_natCast, Int.toNat_zero, Int.toNat_one, true_and, List.length_append, List.length_set, List.length_drop, List.length_take, List.length_replicate, List.length_cons, List.length_nil, Nat.zero_add, Nat.mul_one]); omega) | decide | (intros; simp_all; done) | (intros; simp_all; omega)) ?_
  refine Exists.intro _ (Exists.intro _ (And.intro (StepD.call (pcheck_fn _ _ _ _ _ _) rfl rfl rfl) (And.intro rfl (And.intro trivial ?_))))
  refine hK3 _ _ ?_
  clear hK3
  refine AWPD.seq fun K4 hK4 => ?_
  -- region 2
  refine AWPD.keep [1, 2, 3, 9] rfl ?_
  refine AWPD.region (tabOK.own [31, 32]) rfl ?_
  refine hK4 _ _ ?_
  clear hK4
  first | refine AWPD.condP rfl (fun h0 => ?_) (fun h0 => ?_) | refine AWPD.condN rfl (fun h0 => ?_) (fun h0 => ?_) | refine AWPD.condAP rfl (fun h0 => ?_) (fun h0 => ?_) | refine AWPD.condOP rfl (fun h0 => ?_) (fun h0 => ?_) | refine AWPD.condONN rfl (fun h0 => ?_) (fun h0 => ?_) | refine AWPD.condOPN rfl (fun h0 => ?_) (fun h0 => ?_) | refine AWPD.condA rfl (fun h0 => ?_) (fun h0 => ?_) | refine AWPD.condO rfl (fun h0 => ?_) (fun h0 => ?_) | refine AWPD.cond rfl (fun h0 => ?_) (fun h0 => ?_)
  · try dsimp only [Ty.T] at h0
    try simp only [castL_self] at h0
    try simp only [Int.toNat_natCast] at h0
    try simp only [Int.toNat_zero] at h0
    refine AWPD.seq fun K5 hK5 => ?_
    -- region 3
    refine AWPD.keep [9] rfl ?_
    refine AWPD.region (tabOK.own [31, 32]) rfl ?_
    refine hK5 _ _ ?_
    clear hK5
    refine AWPD.ret (And.intro (.inl rfl) ?_)
    -- result 0
    exact ⟨fitB rfl (by unfold quietV; rw [if_neg (by simpa using h0)]), fitN rfl (by unfold quietW; rw [if_neg (fun h => h0 h.1)]) (by decide), fitE rfl rfl⟩
  · try dsimp only [Ty.T] at h0
    try simp only [castL_self] at h0
    try simp only [Int.toNat_natCast] at h0
    try simp only [Int.toNat_zero] at h0
    have he : chkE P A N S f part = 0 := by simpa using h0
    have g := chk_good he
    have g16 := g.m.few
    have gs := g.m.some
    have g6 := g.m.acts6
    have gp := g.part
    have gP := g.m.parts
    refine AWPD.skip ?_
    refine hK2 _ _ ?_
    clear hK2
    refine AWPD.seq fun K6 hK6 => ?_
    -- region 4
    refine AWPD.keep [1, 2, 3] rfl ?_
    refine AWPD.region (tabOK.own [31, 32]) rfl ?_
    refine hK6 _ _ ?_
    clear hK6
    refine AWPD.seq fun K7 hK7 => ?_
    -- region 5
    refine AWPD.newQ 0 91 .two rfl ?_
    refine AWPD.keep [1, 2, 3, 10] rfl ?_
    refine AWPD.region (tabOK.own [31, 32]) rfl ?_
    refine Exists.intro _ (Exists.intro _ (And.intro (StepD.callO (i := 0) (addP_fn (0, 0) [] (by decide)) rfl rfl rfl rfl (by first | exact rfl | exact row_free _ _ _) (by first | exact rfl | exact row_free _ _ _)) (And.intro rfl (And.intro trivial ?_))))
    refine hK7 _ _ ?_
    clear hK7
    refine AWPD.seq fun K8 hK8 => ?_
    -- region 6
    refine AWPD.keep [1, 2, 3, 10] rfl ?_
    refine AWPD.region (tabOK.own [31, 32]) rfl ?_
    refine hK8 _ _ ?_
    clear hK8
    refine AWPD.seq fun K9 hK9 => ?_
    refine AWPD.seq fun K10 hK10 => ?_
    -- region 7
    refine AWPD.keep [1, 2, 3, 10, 11, 12] rfl ?_
    refine AWPD.region (tabOK.own [31, 32]) rfl ?_
    refine hK10 _ _ ?_
    clear hK10
    refine AWPD.block ?_
    -- LOOP 0 live [1, 2, 3, 10, 11, 12, 13] changed [11, 12, 13]
    refine AWPD.loopK (σ := Nat) [1, 2, 3] (fun at_ base => (10, .op 0 0) :: (11, .ob 1) :: (12, .ob 2) :: (13, .i (at_ : Int)) :: base) (fun at_ => [.que 88 91 .two (quO N A f part at_).1, .row 3 .int (quO N A f part at_).2.1, .row 3 .int (quO N A f part at_).2.2]) (fun n at_ => n + at_ = 257 ∧ stopB (fun k => (quO N A f part k).1.length) (quBad N A f part S) n at_ = quEnd N A f part S ∧ at_ ≤ (quO N A f part at_).1.length ∧ QOK N (quO N A f part at_)) (257) 0 [0, 1, 2] rfl rfl (⟨rfl, rfl, Nat.zero_le _, quO_ok0 g⟩) (by decide) ⟨rfl, ⟨rfl, rfl, rfl⟩, ⟨rfl, rfl, rfl⟩, trivial⟩ (by repeat' first | exact True.intro | exact rfl | exact ⟨rfl, rfl⟩ | refine And.intro ?_ ?_) fun n0 at_ hI0 => ?_
    obtain ⟨hn0, hs0, hk0, hq0⟩ := hI0
    have hfew := hq0.few g16
    have hl1 := hq0.l1
    have hl2 := hq0.l2
    have hpre := (quO_pre N A f part at_).length_le
    refine AWPD.seq fun K11 hK11 => ?_
    refine AWPD.seq fun K12 hK12 => ?_
    -- region 8
    refine AWPD.keep [1, 2, 3, 10, 11, 12, 13] rfl ?_
    refine AWPD.region (tabOK.own [31, 32]) rfl ?_
    refine Exists.intro _ (Exists.intro _ (And.intro (StepD.callO (i := 0) (lenP_fn _) rfl rfl rfl rfl (by first | exact rfl | exact row_free _ _ _) (by first | exact rfl | exact row_free _ _ _)) (And.intro rfl (And.intro trivial ?_))))
    refine hK12 _ _ ?_
    clear hK12
    first | refine AWPD.condP rfl (fun h1 => ?_) (fun h1 => ?_) | refine AWPD.condN rfl (fun h1 => ?_) (fun h1 => ?_) | refine AWPD.condAP rfl (fun h1 => ?_) (fun h1 => ?_) | refine AWPD.condOP rfl (fun h1 => ?_) (fun h1 => ?_) | refine AWPD.condONN rfl (fun h1 => ?_) (fun h1 => ?_) | refine AWPD.condOPN rfl (fun h1 => ?_) (fun h1 => ?_) | refine AWPD.condA rfl (fun h1 => ?_) (fun h1 => ?_) | refine AWPD.condO rfl (fun h1 => ?_) (fun h1 => ?_) | refine AWPD.cond rfl (fun h1 => ?_) (fun h1 => ?_)
    · try dsimp only [Ty.T] at h1
      try simp only [castL_self] at h1
      try simp only [Int.toNat_natCast] at h1
      try simp only [Int.toNat_zero] at h1
      have hss := hq0.sees g (k := at_) (by omega)
      refine AWPD.skip ?_
      refine hK11 _ _ ?_
      clear hK11
      refine AWPD.seq fun K13 hK13 => ?_
      refine AWPD.block ?_
      refine AWPD.seq fun K14 hK14 => ?_
      -- region 10
      refine AWPD.keep [1, 2, 3, 10, 11, 12, 13] rfl ?_
      refine AWPD.region (tabOK.own [31, 32]) rfl ?_
      refine Exists.intro _ (Exists.intro _ (And.intro (StepD.callO (i := 0) (atP_fn (at_ : Int) (quO N A f part at_).1 (by omega)) rfl rfl rfl rfl (by first | exact rfl | exact row_free _ _ _) (by first | exact rfl | exact row_free _ _ _)) (And.intro rfl (And.intro trivial ?_))))
      repeat refine And.intro (by first | exact fun h => h | exact fun _ => rfl | (intro h; rw [h]; rfl) | omega | (intros; (try dsimp only [Ty.T, Ty.size]); (try simp only [castL_self, Int.toNat_natCast, Int.toNat_zero, Int.toNat_one, true_and, List.length_append, List.length_set, List.length_drop, List.length_take, List.length_replicate, List.length_cons, List.length_nil, Nat.zero_add, Nat.mul_one]); omega) | decide | (intros; simp_all; done) | (intros; simp_all; omega)) ?_
      refine hK14 _ _ ?_
      clear hK14
      refine AWPD.seq fun K15 hK15 => ?_
      refine AWPD.seq fun K16 hK16 => ?_
      -- region 11
      refine AWPD.freezeB 14 rfl rfl rfl rfl ?_
      refine AWPD.keep [1, 2, 3, 10, 11, 12, 13, 14] rfl ?_
      refine AWPD.draw (tabOK.own [31, 32]) [] rfl (by kernel_rfl) ?_
      repeat refine And.intro (by first | exact fun h => h | exact fun _ => rfl | (intro h; rw [h]; rfl) | omega | (intros; (try dsimp only [Ty.T, Ty.size]); (try simp only [castL_self, Int.toNat_natCast, Int.toNat_zero, Int.toNat_one, true_and, List.length_append, List.length_set, List.length_drop, List.length_take, List.length_replicate, List.length_cons, List.length_nil, Nat.zero_add, Nat.mul_one]); omega) | decide | (intros; simp_all; done) | (intros; simp_all; omega)) ?_
      refine hK16 _ _ ?_
      clear hK16
      first | refine AWPD.cond rfl (fun h2 => ?_) (fun h2 => ?_)
      · try dsimp only [Ty.T] at h2
        try simp only [castL_self] at h2
        try simp only [Int.toNat_natCast] at h2
        try simp only [Int.toNat_zero] at h2
        have hbad : quBad N A f part S at_ = true := h2
        refine AWPD.seq fun K17 hK17 => ?_
        -- region 12
        refine AWPD.keep [11, 12, 13] rfl ?_
        refine AWPD.region (tabOK.own [31, 32]) rfl ?_
        refine hK17 _ _ ?_
        clear hK17
        refine AWPD.seq fun K18 hK18 => ?_
        refine AWPD.seq fun K19 hK19 => ?_
        -- region 13
        refine AWPD.keep [11, 12, 13, 15] rfl ?_
        refine AWPD.region (tabOK.own [31, 32]) rfl ?_
        refine hK19 _ _ ?_
        clear hK19
        refine AWPD.block ?_
        -- LOOP 1 live [11, 12, 15, 16] changed [15, 16]
        refine AWPD.nilRow 15 3 .int rfl (by decide) ?_
        refine AWPD.loopK (σ := Nat × List Int) [] (fun l base => (11, .ob 0) :: (12, .ob 1) :: (15, .ob 2) :: (16, .i (l.1 : Int)) :: base) (fun l => [.row 3 .int (quO N A f part at_).2.1, .row 3 .int (quO N A f part at_).2.2, .row 3 .int l.2]) (fun n l => l.1 < n ∧ l.1 ≤ at_ ∧ (∃ m, l.1 ≤ m ∧ l.2 ++ traceF (quO N A f part at_).2.1 (quO N A f part at_).2.2 m l.1 = traceF (quO N A f part at_).2.1 (quO N A f part at_).2.2 at_ at_) ∧ l.2.length ≤ at_ - l.1) (at_ + 1) (at_, []) [1, 2, 4] rfl rfl (⟨by simp, Nat.le_refl _, ⟨at_, Nat.le_refl _, rfl⟩, by simp⟩) (by decide) ⟨⟨rfl, rfl, rfl⟩, ⟨rfl, rfl, rfl⟩, ⟨rfl, rfl, rfl⟩, trivial⟩ (by repeat' first | exact True.intro | exact rfl | exact ⟨rfl, rfl⟩ | refine And.intro ?_ ?_) fun n1 l hI1 => ?_
        obtain ⟨hn1, hk1, ⟨mm, hm1, hm2⟩, hlen1⟩ := hI1
        refine AWPD.seq fun K20 hK20 => ?_
        refine AWPD.seq fun K21 hK21 => ?_
        -- region 14
        refine AWPD.keep [11, 12, 15, 16] rfl ?_
        refine AWPD.region (tabOK.own [31, 32]) rfl ?_
        refine hK21 _ _ ?_
        clear hK21
        first | refine AWPD.condP rfl (fun h3 => ?_) (fun h3 => ?_) | refine AWPD.condN rfl (fun h3 => ?_) (fun h3 => ?_) | refine AWPD.condAP rfl (fun h3 => ?_) (fun h3 => ?_) | refine AWPD.condOP rfl (fun h3 => ?_) (fun h3 => ?_) | refine AWPD.condONN rfl (fun h3 => ?_) (fun h3 => ?_) | refine AWPD.condOPN rfl (fun h3 => ?_) (fun h3 => ?_) | refine AWPD.condA rfl (fun h3 => ?_) (fun h3 => ?_) | refine AWPD.condO rfl (fun h3 => ?_) (fun h3 => ?_) | refine AWPD.cond rfl (fun h3 => ?_) (fun h3 => ?_)
        · try dsimp only [Ty.T] at h3
          try simp only [castL_self] at h3
          try simp only [Int.toNat_natCast] at h3
          try simp only [Int.toNat_zero] at h3
          refine AWPD.skip ?_
          refine hK20 _ _ ?_
          clear hK20
          refine AWPD.seq fun K22 hK22 => ?_
          refine AWPD.block ?_
          -- region 16
          refine AWPD.keep [11, 12, 15, 16] rfl ?_
          refine AWPD.region (tabOK.own [31, 32]) rfl ?_
          repeat refine And.intro (by first | exact fun h => h | exact fun _ => rfl | (intro h; rw [h]; rfl) | omega | (intros; (try dsimp only [Ty.T, Ty.size]); (try simp only [castL_self, Int.toNat_natCast, Int.toNat_zero, Int.toNat_one, true_and, List.length_append, List.length_set, List.length_drop, List.length_take, List.length_replicate, List.length_cons, List.length_nil, Nat.zero_add, Nat.mul_one]); omega) | decide | (intros; simp_all; done) | (intros; simp_all; omega)) ?_
          refine hK22 _ _ ?_
          clear hK22
          -- region 15
          refine AWPD.keep [11, 12, 15, 16] rfl ?_
          refine AWPD.region (tabOK.own [31, 32]) rfl ?_
          repeat refine And.intro (by first | exact fun h => h | exact fun _ => rfl | (intro h; rw [h]; rfl) | omega | (intros; (try dsimp only [Ty.T, Ty.size]); (try simp only [castL_self, Int.toNat_natCast, Int.toNat_zero, Int.toNat_one, true_and, List.length_append, List.length_set, List.length_drop, List.length_take, List.length_replicate, List.length_cons, List.length_nil, Nat.zero_add, Nat.mul_one]); omega) | decide | (intros; simp_all; done) | (intros; simp_all; omega)) ?_
          refine ⟨n1 - 1, (((quO N A f part at_).2.1.getD l.1 0).toNat, l.2 ++ [(quO N A f part at_).2.2.getD l.1 0]), [0, 1, 3], by omega, (by
            have hbk := hq0.back l.1 (by omega) (by omega)
            refine ⟨by simp only []; omega, by simp only []; omega, ⟨mm - 1, by simp only []; omega, ?_⟩, by simp only [List.length_append, List.length_cons, List.length_nil]; omega⟩
            rw [← hm2, show mm = (mm - 1) + 1 by omega, trace_step (by omega)]
            simp), ⟨by decide, rfl⟩, ⟨⟨rfl, rfl, rfl⟩, ⟨rfl, rfl, rfl⟩, ⟨rfl, rfl, rfl⟩, trivial⟩, ?_⟩
          repeat' first | (show (quO N A f part at_).2.1.getD l.1 0 = (((quO N A f part at_).2.1.getD l.1 0).toNat : Int); have hbk := hq0.back l.1 (by omega) (by omega); omega) | exact True.intro | exact rfl | exact ⟨rfl, rfl⟩ | refine And.intro ?_ ?_
        · try dsimp only [Ty.T] at h3
          try simp only [castL_self] at h3
          try simp only [Int.toNat_natCast] at h3
          try simp only [Int.toNat_zero] at h3
          refine AWPD.exit ?_
          refine hK18 _ _ ?_
          clear hK18
          refine AWPD.seq fun K23 hK23 => ?_
          -- region 17
          refine AWPD.keep [15] rfl ?_
          refine AWPD.region (tabOK.own [31, 32]) rfl ?_
          refine Exists.intro _ (Exists.intro _ (And.intro (StepD.callO (i := 2) (reverse_fn l.2 (by omega)) rfl rfl rfl rfl (by first | exact rfl | exact row_free _ _ _) (by first | exact rfl | exact row_free _ _ _)) (And.intro rfl (And.intro trivial ?_))))
          refine hK23 _ _ ?_
          clear hK23
          refine AWPD.seq fun K24 hK24 => ?_
          -- region 18
          refine AWPD.keep [15] rfl ?_
          refine AWPD.region (tabOK.own [31, 32]) rfl ?_
          refine hK24 _ _ ?_
          clear hK24
          refine AWPD.ret (And.intro (.inl rfl) ?_)
          -- result 1
          have hend : at_ = quEnd N A f part S := by rw [← hs0, show n0 = (n0 - 1) + 1 by omega, stopB, if_pos (show at_ < (quO N A f part at_).1.length by omega), if_pos hbad]
          have hqf : quietB N A f part S = false := by unfold quietB; rw [← hend]; exact decide_eq_false (by omega)
          exact ⟨fitB rfl (by unfold quietV; rw [if_pos he, hqf]), fitR rfl rfl (by unfold quietW; rw [if_pos ⟨he, hqf⟩, ← hend, quPath, ← hm2, show l.1 = 0 by omega]; cases mm <;> simp [traceF]), fitE rfl he.symm⟩
      · try dsimp only [Ty.T] at h2
        try simp only [castL_self] at h2
        try simp only [Int.toNat_natCast] at h2
        try simp only [Int.toNat_zero] at h2
        have hbad : quBad N A f part S at_ = false := h2
        refine AWPD.skip ?_
        refine hK15 _ _ ?_
        clear hK15
        refine AWPD.seq fun K25 hK25 => ?_
        -- region 19
        refine AWPD.keep [1, 2, 3, 10, 11, 12, 13, 14] rfl ?_
        refine AWPD.region (tabOK.own [31, 32]) rfl ?_
        repeat refine And.intro (by first | exact fun h => h | exact fun _ => rfl | (intro h; rw [h]; rfl) | omega | (intros; (try dsimp only [Ty.T, Ty.size]); (try simp only [castL_self, Int.toNat_natCast, Int.toNat_zero, Int.toNat_one, true_and, List.length_append, List.length_set, List.length_drop, List.length_take, List.length_replicate, List.length_cons, List.length_nil, Nat.zero_add, Nat.mul_one]); omega) | decide | (intros; simp_all; done) | (intros; simp_all; omega)) ?_
        refine hK25 _ _ ?_
        clear hK25
        refine AWPD.block ?_
        -- LOOP 2 live [1, 2, 3, 10, 11, 12, 13, 14, 77, 78, 79] changed [11, 12, 79]
        refine AWPD.loopK (σ := Nat) [1, 2, 3, 13, 14, 77, 78] (fun a base => (10, .op 0 0) :: (11, .ob 1) :: (12, .ob 2) :: (79, .i (a : Int)) :: base) (fun a => [.que 88 91 .two (quI N A f part (quO N A f part at_).1 at_ (quO N A f part at_) a).1, .row 3 .int (quI N A f part (quO N A f part at_).1 at_ (quO N A f part at_) a).2.1, .row 3 .int (quI N A f part (quO N A f part at_).1 at_ (quO N A f part at_) a).2.2]) (fun n a => n + a = A.length) (A.length) 0 [0, 1, 2] rfl rfl (by omega) (by decide) ⟨rfl, ⟨rfl, rfl, rfl⟩, ⟨rfl, rfl, rfl⟩, trivial⟩ (by repeat' first | exact True.intro | exact rfl | exact ⟨rfl, rfl⟩ | refine And.intro ?_ ?_) fun n2 a hI2 => ?_
        have hn2 := hI2
        have hqi := g.quI_ok hq0 (at_ := at_) (by omega) a (by omega)
        have hfi := hqi.few g16
        have hi1 := hqi.l1
        have hi2 := hqi.l2
        refine AWPD.seq fun K26 hK26 => ?_
        -- region 20
        refine AWPD.keep [1, 2, 3, 10, 11, 12, 13, 14, 77, 78, 79] rfl ?_
        refine AWPD.region (tabOK.own [31, 32]) rfl ?_
        refine hK26 _ _ ?_
        clear hK26
        refine AWPD.seq fun K27 hK27 => ?_
        first | refine AWPD.condP rfl (fun h4 => ?_) (fun h4 => ?_) | refine AWPD.condN rfl (fun h4 => ?_) (fun h4 => ?_) | refine AWPD.condAP rfl (fun h4 => ?_) (fun h4 => ?_) | refine AWPD.condOP rfl (fun h4 => ?_) (fun h4 => ?_) | refine AWPD.condONN rfl (fun h4 => ?_) (fun h4 => ?_) | refine AWPD.condOPN rfl (fun h4 => ?_) (fun h4 => ?_) | refine AWPD.condA rfl (fun h4 => ?_) (fun h4 => ?_) | refine AWPD.condO rfl (fun h4 => ?_) (fun h4 => ?_) | refine AWPD.cond rfl (fun h4 => ?_) (fun h4 => ?_)
        · try dsimp only [Ty.T] at h4
          try simp only [castL_self] at h4
          try simp only [Int.toNat_natCast] at h4
          try simp only [Int.toNat_zero] at h4
          refine AWPD.skip ?_
          refine hK27 _ _ ?_
          clear hK27
          refine AWPD.seq fun K28 hK28 => ?_
          refine AWPD.block ?_
          refine AWPD.seq fun K29 hK29 => ?_
          -- region 21
          refine AWPD.keep [1, 2, 3, 10, 11, 12, 13, 14, 77, 78, 79] rfl ?_
          refine AWPD.region (tabOK.own [31, 32]) rfl ?_
          repeat refine And.intro (by first | exact fun h => h | exact fun _ => rfl | (intro h; rw [h]; rfl) | omega | (intros; (try dsimp only [Ty.T, Ty.size]); (try simp only [castL_self, Int.toNat_natCast, Int.toNat_zero, Int.toNat_one, true_and, List.length_append, List.length_set, List.length_drop, List.length_take, List.length_replicate, List.length_cons, List.length_nil, Nat.zero_add, Nat.mul_one]); omega) | decide | (intros; simp_all; done) | (intros; simp_all; omega)) ?_
          refine hK29 _ _ ?_
          clear hK29
          refine AWPD.seq fun K30 hK30 => ?_
          -- region 22
          refine AWPD.keep [1, 2, 3, 10, 11, 12, 13, 14, 17, 18, 77, 78, 79] rfl ?_
          refine AWPD.draw (tabOK.own [31, 32]) [12, 13, 1001, 1003, 1004, 1005, 1007, 1008, 1010, 1011] rfl (by kernel_rfl) ?_
          repeat refine And.intro (by first | exact fun h => h | exact fun _ => rfl | (intro h; rw [h]; rfl) | omega | (intros; (try dsimp only [Ty.T, Ty.size]); (try simp only [castL_self, Int.toNat_natCast, Int.toNat_zero, Int.toNat_one, true_and, List.length_append, List.length_set, List.length_drop, List.length_take, List.length_replicate, List.length_cons, List.length_nil, Nat.zero_add, Nat.mul_one]); omega) | decide | (intros; simp_all; done) | (intros; simp_all; omega)) ?_
          refine hK30 _ _ ?_
          clear hK30
          refine AWPD.seq fun K31 hK31 => ?_
          refine AWPD.seq fun K32 hK32 => ?_
          -- region 23
          have hact := g.act (a := a) (by omega)
          refine AWPD.keep [1, 2, 3, 10, 11, 12, 13, 14, 17, 18, 19, 77, 78, 79] rfl ?_
          refine AWPD.region (tabOK.own [31, 32]) rfl ?_
          repeat refine And.intro (by first | exact fun h => h | exact fun _ => rfl | (intro h; rw [h]; rfl) | omega | (intros; (try dsimp only [Ty.T, Ty.size]); (try simp only [castL_self, Int.toNat_natCast, Int.toNat_zero, Int.toNat_one, true_and, List.length_append, List.length_set, List.length_drop, List.length_take, List.length_replicate, List.length_cons, List.length_nil, Nat.zero_add, Nat.mul_one]); omega) | decide | (intros; simp_all; done) | (intros; simp_all; omega)) ?_
          refine Exists.intro _ (Exists.intro _ (And.intro (StepD.call (has_fn (f.getD (A.getD a 0).toNat 0) part (by omega) (by omega)) rfl rfl rfl) (And.intro rfl (And.intro trivial ?_))))
          refine hK32 _ _ ?_
          clear hK32
          first | refine AWPD.cond rfl (fun h5 => ?_) (fun h5 => ?_)
          · try dsimp only [Ty.T] at h5
            try simp only [castL_self] at h5
            try simp only [Int.toNat_natCast] at h5
            try simp only [Int.toNat_zero] at h5
            have hac : actOn A f part (a : Int) = true := h5
            have hnx := nxt_yes (N := N) (x := (quO N A f part at_).1.getD at_ (0, 0)) hac
            -- region 24
            refine AWPD.keep [1, 2, 3, 10, 11, 12, 13, 14, 17, 19, 77, 78, 79] rfl ?_
            refine AWPD.region (tabOK.own [31, 32]) rfl ?_
            repeat refine And.intro (by first | exact fun h => h | exact fun _ => rfl | (intro h; rw [h]; rfl) | omega | (intros; (try dsimp only [Ty.T, Ty.size]); (try simp only [castL_self, Int.toNat_natCast, Int.toNat_zero, Int.toNat_one, true_and, List.length_append, List.length_set, List.length_drop, List.length_take, List.length_replicate, List.length_cons, List.length_nil, Nat.zero_add, Nat.mul_one]); omega) | decide | (intros; simp_all; done) | (intros; simp_all; omega)) ?_
            refine hK31 _ _ ?_
            clear hK31
            refine AWPD.seq fun K33 hK33 => ?_
            -- region 25
            refine AWPD.keep [1, 2, 3, 10, 11, 12, 13, 14, 17, 19, 77, 78, 79] rfl ?_
            refine AWPD.region (tabOK.own [31, 32]) rfl ?_
            repeat refine And.intro (by first | exact fun h => h | exact fun _ => rfl | (intro h; rw [h]; rfl) | omega | (intros; (try dsimp only [Ty.T, Ty.size]); (try simp only [castL_self, Int.toNat_natCast, Int.toNat_zero, Int.toNat_one, true_and, List.length_append, List.length_set, List.length_drop, List.length_take, List.length_replicate, List.length_cons, List.length_nil, Nat.zero_add, Nat.mul_one]); omega) | decide | (intros; simp_all; done) | (intros; simp_all; omega)) ?_
            refine Exists.intro _ (Exists.intro _ (And.intro (StepD.callO (i := 0) (addP_fn (_, _) _ (by omega)) rfl rfl rfl rfl (by first | exact rfl | exact row_free _ _ _) (by first | exact rfl | exact row_free _ _ _)) (And.intro rfl (And.intro trivial ?_))))
            refine hK33 _ _ ?_
            clear hK33
            refine AWPD.seq fun K34 hK34 => ?_
            -- region 26
            refine AWPD.keep [1, 2, 3, 10, 11, 12, 13, 14, 17, 21, 77, 78, 79] rfl ?_
            refine AWPD.region (tabOK.own [31, 32]) rfl ?_
            refine hK34 _ _ ?_
            clear hK34
            first | refine AWPD.cond rfl (fun h6 => ?_) (fun h6 => ?_)
            · try dsimp only [Ty.T] at h6
              try simp only [castL_self] at h6
              try simp only [Int.toNat_natCast] at h6
              try simp only [Int.toNat_zero] at h6
              have hnew : qNew .two (nxtP N A f part ((quO N A f part at_).1.getD at_ (0, 0)) a) (quI N A f part (quO N A f part at_).1 at_ (quO N A f part at_) a).1 = true := by rw [hnx]; exact h6
              -- region 27
              refine AWPD.keep [1, 2, 3, 10, 11, 12, 13, 14, 17, 77, 78, 79] rfl ?_
              refine AWPD.region (tabOK.own [31, 32]) rfl ?_
              repeat refine And.intro (by first | exact fun h => h | exact fun _ => rfl | (intro h; rw [h]; rfl) | omega | (intros; (try dsimp only [Ty.T, Ty.size]); (try simp only [castL_self, Int.toNat_natCast, Int.toNat_zero, Int.toNat_one, true_and, List.length_append, List.length_set, List.length_drop, List.length_take, List.length_replicate, List.length_cons, List.length_nil, Nat.zero_add, Nat.mul_one]); omega) | decide | (intros; simp_all; done) | (intros; simp_all; omega)) ?_
              refine hK28 _ _ ?_
              clear hK28
              -- region 28
              refine AWPD.keep [1, 2, 3, 10, 11, 12, 13, 14, 77, 78, 79] rfl ?_
              refine AWPD.region (tabOK.own [31, 32]) rfl ?_
              repeat refine And.intro (by first | exact fun h => h | exact fun _ => rfl | (intro h; rw [h]; rfl) | omega | (intros; (try dsimp only [Ty.T, Ty.size]); (try simp only [castL_self, Int.toNat_natCast, Int.toNat_zero, Int.toNat_one, true_and, List.length_append, List.length_set, List.length_drop, List.length_take, List.length_replicate, List.length_cons, List.length_nil, Nat.zero_add, Nat.mul_one]); omega) | decide | (intros; simp_all; done) | (intros; simp_all; omega)) ?_
              refine ⟨n2 - 1, a + 1, [0, 4, 5], by omega, by omega, ⟨by decide, rfl⟩, ⟨(by show queR _ _ _ _ = queR _ _ _ _; rw [quI, hnx]; rfl), ⟨rfl, rfl, by rw [quI, hnew]; rfl⟩, ⟨rfl, rfl, by rw [quI, hnew]; rfl⟩, trivial⟩, ?_⟩
              repeat' first | exact True.intro | exact rfl | exact ⟨rfl, rfl⟩ | refine And.intro ?_ ?_
            · try dsimp only [Ty.T] at h6
              try simp only [castL_self] at h6
              try simp only [Int.toNat_natCast] at h6
              try simp only [Int.toNat_zero] at h6
              have hnew : qNew .two (nxtP N A f part ((quO N A f part at_).1.getD at_ (0, 0)) a) (quI N A f part (quO N A f part at_).1 at_ (quO N A f part at_) a).1 = false := by rw [hnx]; exact h6
              refine AWPD.skip ?_
              refine hK28 _ _ ?_
              clear hK28
              -- region 28
              refine AWPD.keep [1, 2, 3, 10, 11, 12, 13, 14, 77, 78, 79] rfl ?_
              refine AWPD.region (tabOK.own [31, 32]) rfl ?_
              repeat refine And.intro (by first | exact fun h => h | exact fun _ => rfl | (intro h; rw [h]; rfl) | omega | (intros; (try dsimp only [Ty.T, Ty.size]); (try simp only [castL_self, Int.toNat_natCast, Int.toNat_zero, Int.toNat_one, true_and, List.length_append, List.length_set, List.length_drop, List.length_take, List.length_replicate, List.length_cons, List.length_nil, Nat.zero_add, Nat.mul_one]); omega) | decide | (intros; simp_all; done) | (intros; simp_all; omega)) ?_
              refine ⟨n2 - 1, a + 1, [0, 1, 2], by omega, by omega, ⟨by decide, rfl⟩, ⟨(by show queR _ _ _ _ = queR _ _ _ _; rw [quI, hnx]; rfl), ⟨rfl, rfl, by rw [quI, hnew]; rfl⟩, ⟨rfl, rfl, by rw [quI, hnew]; rfl⟩, trivial⟩, ?_⟩
              repeat' first | exact True.intro | exact rfl | exact ⟨rfl, rfl⟩ | refine And.intro ?_ ?_
          · try dsimp only [Ty.T] at h5
            try simp only [castL_self] at h5
            try simp only [Int.toNat_natCast] at h5
            try simp only [Int.toNat_zero] at h5
            have hac : ¬actOn A f part (a : Int) = true := by rw [show actOn A f part (a : Int) = false from h5]; decide
            have hnx := nxt_no (N := N) (x := (quO N A f part at_).1.getD at_ (0, 0)) hac
            refine AWPD.skip ?_
            refine hK31 _ _ ?_
            clear hK31
            refine AWPD.seq fun K35 hK35 => ?_
            -- region 25
            refine AWPD.keep [1, 2, 3, 10, 11, 12, 13, 14, 17, 19, 77, 78, 79] rfl ?_
            refine AWPD.region (tabOK.own [31, 32]) rfl ?_
            repeat refine And.intro (by first | exact fun h => h | exact fun _ => rfl | (intro h; rw [h]; rfl) | omega | (intros; (try dsimp only [Ty.T, Ty.size]); (try simp only [castL_self, Int.toNat_natCast, Int.toNat_zero, Int.toNat_one, true_and, List.length_append, List.length_set, List.length_drop, List.length_take, List.length_replicate, List.length_cons, List.length_nil, Nat.zero_add, Nat.mul_one]); omega) | decide | (intros; simp_all; done) | (intros; simp_all; omega)) ?_
            refine Exists.intro _ (Exists.intro _ (And.intro (StepD.callO (i := 0) (addP_fn (_, _) _ (by omega)) rfl rfl rfl rfl (by first | exact rfl | exact row_free _ _ _) (by first | exact rfl | exact row_free _ _ _)) (And.intro rfl (And.intro trivial ?_))))
            refine hK35 _ _ ?_
            clear hK35
            refine AWPD.seq fun K36 hK36 => ?_
            -- region 26
            refine AWPD.keep [1, 2, 3, 10, 11, 12, 13, 14, 17, 21, 77, 78, 79] rfl ?_
            refine AWPD.region (tabOK.own [31, 32]) rfl ?_
            refine hK36 _ _ ?_
            clear hK36
            first | refine AWPD.cond rfl (fun h6 => ?_) (fun h6 => ?_)
            · try dsimp only [Ty.T] at h6
              try simp only [castL_self] at h6
              try simp only [Int.toNat_natCast] at h6
              try simp only [Int.toNat_zero] at h6
              have hnew : qNew .two (nxtP N A f part ((quO N A f part at_).1.getD at_ (0, 0)) a) (quI N A f part (quO N A f part at_).1 at_ (quO N A f part at_) a).1 = true := by rw [hnx]; exact h6
              -- region 27
              refine AWPD.keep [1, 2, 3, 10, 11, 12, 13, 14, 17, 77, 78, 79] rfl ?_
              refine AWPD.region (tabOK.own [31, 32]) rfl ?_
              repeat refine And.intro (by first | exact fun h => h | exact fun _ => rfl | (intro h; rw [h]; rfl) | omega | (intros; (try dsimp only [Ty.T, Ty.size]); (try simp only [castL_self, Int.toNat_natCast, Int.toNat_zero, Int.toNat_one, true_and, List.length_append, List.length_set, List.length_drop, List.length_take, List.length_replicate, List.length_cons, List.length_nil, Nat.zero_add, Nat.mul_one]); omega) | decide | (intros; simp_all; done) | (intros; simp_all; omega)) ?_
              refine hK28 _ _ ?_
              clear hK28
              -- region 28
              refine AWPD.keep [1, 2, 3, 10, 11, 12, 13, 14, 77, 78, 79] rfl ?_
              refine AWPD.region (tabOK.own [31, 32]) rfl ?_
              repeat refine And.intro (by first | exact fun h => h | exact fun _ => rfl | (intro h; rw [h]; rfl) | omega | (intros; (try dsimp only [Ty.T, Ty.size]); (try simp only [castL_self, Int.toNat_natCast, Int.toNat_zero, Int.toNat_one, true_and, List.length_append, List.length_set, List.length_drop, List.length_take, List.length_replicate, List.length_cons, List.length_nil, Nat.zero_add, Nat.mul_one]); omega) | decide | (intros; simp_all; done) | (intros; simp_all; omega)) ?_
              refine ⟨n2 - 1, a + 1, [0, 4, 5], by omega, by omega, ⟨by decide, rfl⟩, ⟨(by show queR _ _ _ _ = queR _ _ _ _; rw [quI, hnx]; rfl), ⟨rfl, rfl, by rw [quI, hnew]; rfl⟩, ⟨rfl, rfl, by rw [quI, hnew]; rfl⟩, trivial⟩, ?_⟩
              repeat' first | exact True.intro | exact rfl | exact ⟨rfl, rfl⟩ | refine And.intro ?_ ?_
            · try dsimp only [Ty.T] at h6
              try simp only [castL_self] at h6
              try simp only [Int.toNat_natCast] at h6
              try simp only [Int.toNat_zero] at h6
              have hnew : qNew .two (nxtP N A f part ((quO N A f part at_).1.getD at_ (0, 0)) a) (quI N A f part (quO N A f part at_).1 at_ (quO N A f part at_) a).1 = false := by rw [hnx]; exact h6
              refine AWPD.skip ?_
              refine hK28 _ _ ?_
              clear hK28
              -- region 28
              refine AWPD.keep [1, 2, 3, 10, 11, 12, 13, 14, 77, 78, 79] rfl ?_
              refine AWPD.region (tabOK.own [31, 32]) rfl ?_
              repeat refine And.intro (by first | exact fun h => h | exact fun _ => rfl | (intro h; rw [h]; rfl) | omega | (intros; (try dsimp only [Ty.T, Ty.size]); (try simp only [castL_self, Int.toNat_natCast, Int.toNat_zero, Int.toNat_one, true_and, List.length_append, List.length_set, List.length_drop, List.length_take, List.length_replicate, List.length_cons, List.length_nil, Nat.zero_add, Nat.mul_one]); omega) | decide | (intros; simp_all; done) | (intros; simp_all; omega)) ?_
              refine ⟨n2 - 1, a + 1, [0, 1, 2], by omega, by omega, ⟨by decide, rfl⟩, ⟨(by show queR _ _ _ _ = queR _ _ _ _; rw [quI, hnx]; rfl), ⟨rfl, rfl, by rw [quI, hnew]; rfl⟩, ⟨rfl, rfl, by rw [quI, hnew]; rfl⟩, trivial⟩, ?_⟩
              repeat' first | exact True.intro | exact rfl | exact ⟨rfl, rfl⟩ | refine And.intro ?_ ?_
        · try dsimp only [Ty.T] at h4
          try simp only [castL_self] at h4
          try simp only [Int.toNat_natCast] at h4
          try simp only [Int.toNat_zero] at h4
          refine AWPD.exit ?_
          refine hK13 _ _ ?_
          clear hK13
          -- region 9
          refine AWPD.keep [1, 2, 3, 10, 11, 12, 13] rfl ?_
          refine AWPD.region (tabOK.own [31, 32]) rfl ?_
          repeat refine And.intro (by first | exact fun h => h | exact fun _ => rfl | (intro h; rw [h]; rfl) | omega | (intros; (try dsimp only [Ty.T, Ty.size]); (try simp only [castL_self, Int.toNat_natCast, Int.toNat_zero, Int.toNat_one, true_and, List.length_append, List.length_set, List.length_drop, List.length_take, List.length_replicate, List.length_cons, List.length_nil, Nat.zero_add, Nat.mul_one]); omega) | decide | (intros; simp_all; done) | (intros; simp_all; omega)) ?_
          refine ⟨n0 - 1, at_ + 1, [0, 1, 2], by omega, ⟨by omega, by rw [← hs0]; conv => rhs; rw [show n0 = (n0 - 1) + 1 by omega, stopB, if_pos (show at_ < (quO N A f part at_).1.length by omega), if_neg (by rw [hbad]; decide)], by omega, g.quI_ok hq0 (by omega) A.length (Nat.le_refl _)⟩, ⟨by decide, rfl⟩, ⟨(by show queR _ _ _ _ = queR _ _ _ _; rw [quO, show A.length = a by omega]), ⟨rfl, rfl, by rw [quO, show A.length = a by omega]; rfl⟩, ⟨rfl, rfl, by rw [quO, show A.length = a by omega]; rfl⟩, trivial⟩, ?_⟩
          repeat' first | exact True.intro | exact rfl | exact ⟨rfl, rfl⟩ | refine And.intro ?_ ?_
    · try dsimp only [Ty.T] at h1
      try simp only [castL_self] at h1
      try simp only [Int.toNat_natCast] at h1
      try simp only [Int.toNat_zero] at h1
      refine AWPD.exit ?_
      refine hK9 _ _ ?_
      clear hK9
      refine AWPD.seq fun K37 hK37 => ?_
      -- region 29
      refine AWPD.keep [] rfl ?_
      refine AWPD.region (tabOK.own [31, 32]) rfl ?_
      refine hK37 _ _ ?_
      clear hK37
      refine AWPD.ret (And.intro (.inl rfl) ?_)
      -- result 2
      have hend : at_ = quEnd N A f part S := by rw [← hs0, show n0 = (n0 - 1) + 1 by omega, stopB, if_neg (show ¬at_ < (quO N A f part at_).1.length by omega)]
      have hqt : quietB N A f part S = true := by unfold quietB; rw [← hend]; exact decide_eq_true (by omega)
      exact ⟨fitB rfl (by unfold quietV; rw [if_pos he, hqt]), fitN rfl (by unfold quietW; rw [if_neg (fun h => by rw [hqt] at h; cases h.2)]) (by decide), fitE rfl he.symm⟩
end Go.Proofs.YtndoigkmdcgjfaaDoor
