/-
  WALKS of the law of who is loud: the acts that are told are the first ones behind which a part sees another thing. Laid by a program of mine out of the operations, with the loops and results told by hand.
-/
import Derived.Test.YtndoigkmdcgjfaaDoorQwPu
set_option linter.unusedSectionVars false
namespace Go.Proofs.YtndoigkmdcgjfaaDoor
open Go Go.Qw
set_option maxRecDepth 10000
set_option linter.unusedSimpArgs false
set_option linter.unusedVariables false


/-! ### Words in order: the shorter first, then the smaller. -/
def slt (u v : List Int) : Prop := u.length < v.length ∨ (u.length = v.length ∧ ∃ i, i < u.length ∧ (∀ q, q < i → u.getD q 0 = v.getD q 0) ∧ u.getD i 0 < v.getD i 0)
def sle (u v : List Int) : Prop := u = v ∨ slt u v
theorem snocD {l : List Int} {x : Int} {k : Nat} (h : k < l.length) : (l ++ [x]).getD k 0 = l.getD k 0 := by rw [getD_snoc, if_pos h]
theorem snocL (l : List Int) (x : Int) : (l ++ [x]).getD l.length 0 = x := by rw [getD_snoc, if_neg (Nat.lt_irrefl _), if_pos rfl]
theorem slt_trans {u v w : List Int} (h1 : slt u v) (h2 : slt v w) : slt u w := by
  rcases h1 with h1 | ⟨h1, i, hi, e1, l1⟩
  · rcases h2 with h2 | ⟨h2, _⟩
    · exact .inl (by omega)
    · exact .inl (by omega)
  · rcases h2 with h2 | ⟨h2, j, hj, e2, l2⟩
    · exact .inl (by omega)
    · refine .inr ⟨by omega, ?_⟩
      rcases Nat.lt_trichotomy i j with h | h | h
      · exact ⟨i, hi, fun q hq => by rw [e1 q hq, e2 q (by omega)], by rw [← e2 i h]; exact l1⟩
      · subst h; exact ⟨i, hi, fun q hq => by rw [e1 q hq, e2 q hq], by omega⟩
      · exact ⟨j, by omega, fun q hq => by rw [e1 q (by omega), e2 q hq], by rw [e1 j h]; exact l2⟩
theorem slt_irrefl {u : List Int} (h : slt u u) : False := by
  rcases h with h | ⟨_, i, _, _, h⟩ <;> omega
theorem sle_slt {u v w : List Int} (h1 : sle u v) (h2 : slt v w) : slt u w := by
  rcases h1 with rfl | h1
  · exact h2
  · exact slt_trans h1 h2
theorem sle_trans {u v w : List Int} (h1 : sle u v) (h2 : sle v w) : sle u w := by
  rcases h2 with rfl | h2
  · exact h1
  · exact .inr (sle_slt h1 h2)
theorem slt_app {u v : List Int} (h : slt u v) (a b : Int) : slt (u ++ [a]) (v ++ [b]) := by
  rcases h with h | ⟨h, i, hi, e, l⟩
  · exact .inl (by simp; omega)
  · refine .inr ⟨by simp [h], i, by simp; omega, fun q hq => ?_, ?_⟩
    · rw [snocD (by omega), snocD (by omega)]; exact e q hq
    · rw [snocD (by omega), snocD (by omega)]; exact l
theorem slt_last {u : List Int} {a b : Int} (h : a < b) : slt (u ++ [a]) (u ++ [b]) :=
  .inr ⟨by simp, u.length, by simp, fun q hq => by rw [snocD hq, snocD hq], by rw [snocL, snocL]; exact h⟩
theorem slt_snoc (u : List Int) (a : Int) : slt u (u ++ [a]) := .inl (by simp)
def lexP (i a j b : Int) : Prop := i < j ∨ (i = j ∧ a < b)

/-- How the pairs came: each out of an earlier one, in order. -/
structure Edges (N : List (List Int)) (A f : List Int) (part : Int) (at_ a_ : Int) (s : QS) : Prop where
  each : ∀ k, 0 < k → k < s.1.length → 0 ≤ s.2.2.getD k 0 ∧ s.2.2.getD k 0 < (A.length : Int) ∧ s.1.getD k (0, 0) = nxtP N A f part (s.1.getD (s.2.1.getD k 0).toNat (0, 0)) (s.2.2.getD k 0).toNat ∧ lexP (s.2.1.getD k 0) (s.2.2.getD k 0) at_ a_
  order : ∀ k k', 0 < k' → k' < k → k < s.1.length → lexP (s.2.1.getD k' 0) (s.2.2.getD k' 0) (s.2.1.getD k 0) (s.2.2.getD k 0)
theorem getP_snoc {l : List Pr} {x : Pr} {k : Nat} (h : k < l.length) : (l ++ [x]).getD k (0, 0) = l.getD k (0, 0) := by simp only [List.getD, List.getElem?_append_left h]
theorem getP_last (l : List Pr) (x : Pr) : (l ++ [x]).getD l.length (0, 0) = x := by simp [List.getD]
theorem Edges.later {N : List (List Int)} {A f : List Int} {part : Int} {i a j b : Int} {s : QS} (h : Edges N A f part i a s) (hl : i < j ∨ (i = j ∧ a ≤ b)) : Edges N A f part j b s :=
  ⟨fun k h1 h2 => by
    obtain ⟨x1, x2, x3, x4⟩ := h.each k h1 h2
    exact ⟨x1, x2, x3, by unfold lexP at x4 ⊢; omega⟩, h.order⟩
theorem Edges.step {N : List (List Int)} {A f : List Int} {part : Int} {s : QS} {at_ k : Nat} (h : Edges N A f part (at_ : Int) (k : Int) s) (q : QOK N s) (hat : at_ < s.1.length) (hk : k < A.length) {x : Pr} (hx : s.1.getD at_ (0, 0) = x) :
    Edges N A f part (at_ : Int) ((k + 1 : Nat) : Int) (qAdd .two (nxtP N A f part x k) s.1, bif qNew .two (nxtP N A f part x k) s.1 then s.2.1 ++ [(at_ : Int)] else s.2.1, bif qNew .two (nxtP N A f part x k) s.1 then s.2.2 ++ [(k : Int)] else s.2.2) := by
  have h1 := q.l1
  have h2 := q.l2
  rcases pAdd_or (nxtP N A f part x k) s.1 with ⟨e1, e2, e3⟩ | ⟨e1, e2, e3⟩
  · rw [e1, e3]
    exact h.later (.inr ⟨rfl, by omega⟩)
  · rw [e1, e3]
    simp only [cond_true]
    have old1 : ∀ j, j < s.1.length → (s.2.1 ++ [(at_ : Int)]).getD j 0 = s.2.1.getD j 0 := fun j hj => snocD (by omega)
    have old2 : ∀ j, j < s.1.length → (s.2.2 ++ [(k : Int)]).getD j 0 = s.2.2.getD j 0 := fun j hj => snocD (by omega)
    have new1 : (s.2.1 ++ [(at_ : Int)]).getD s.1.length 0 = (at_ : Int) := by rw [← h1]; exact snocL _ _
    have new2 : (s.2.2 ++ [(k : Int)]).getD s.1.length 0 = (k : Int) := by rw [← h2]; exact snocL _ _
    refine ⟨fun j hj hl => ?_, fun j j' hj' hjj hl => ?_⟩
    · simp only [List.length_append, List.length_cons, List.length_nil] at hl
      rcases Nat.lt_or_ge j s.1.length with hj2 | hj2
      · obtain ⟨x1, x2, x3, x4⟩ := h.each j hj hj2
        have hb := q.back j hj hj2
        show 0 ≤ (s.2.2 ++ [(k : Int)]).getD j 0 ∧ (s.2.2 ++ [(k : Int)]).getD j 0 < (A.length : Int) ∧ (s.1 ++ [nxtP N A f part x k]).getD j (0, 0) = nxtP N A f part ((s.1 ++ [nxtP N A f part x k]).getD ((s.2.1 ++ [(at_ : Int)]).getD j 0).toNat (0, 0)) ((s.2.2 ++ [(k : Int)]).getD j 0).toNat ∧ lexP ((s.2.1 ++ [(at_ : Int)]).getD j 0) ((s.2.2 ++ [(k : Int)]).getD j 0) (at_ : Int) ((k + 1 : Nat) : Int)
        rw [old1 j hj2, old2 j hj2, getP_snoc hj2, getP_snoc (by omega)]
        exact ⟨x1, x2, x3, by unfold lexP at x4 ⊢; omega⟩
      · have : j = s.1.length := by omega
        subst this
        show 0 ≤ (s.2.2 ++ [(k : Int)]).getD s.1.length 0 ∧ (s.2.2 ++ [(k : Int)]).getD s.1.length 0 < (A.length : Int) ∧ (s.1 ++ [nxtP N A f part x k]).getD s.1.length (0, 0) = nxtP N A f part ((s.1 ++ [nxtP N A f part x k]).getD ((s.2.1 ++ [(at_ : Int)]).getD s.1.length 0).toNat (0, 0)) ((s.2.2 ++ [(k : Int)]).getD s.1.length 0).toNat ∧ lexP ((s.2.1 ++ [(at_ : Int)]).getD s.1.length 0) ((s.2.2 ++ [(k : Int)]).getD s.1.length 0) (at_ : Int) ((k + 1 : Nat) : Int)
        rw [new1, new2, getP_last, Int.toNat_natCast, Int.toNat_natCast, getP_snoc hat, hx]
        exact ⟨by omega, by omega, rfl, by unfold lexP; omega⟩
    · simp only [List.length_append, List.length_cons, List.length_nil] at hl
      show lexP ((s.2.1 ++ [(at_ : Int)]).getD j' 0) ((s.2.2 ++ [(k : Int)]).getD j' 0) ((s.2.1 ++ [(at_ : Int)]).getD j 0) ((s.2.2 ++ [(k : Int)]).getD j 0)
      rw [old1 j' (by omega), old2 j' (by omega)]
      rcases Nat.lt_or_ge j s.1.length with hj2 | hj2
      · rw [old1 j hj2, old2 j hj2]; exact h.order j j' hj' hjj hj2
      · rw [show j = s.1.length by omega, new1, new2]
        exact (h.each j' hj' (by omega)).2.2.2
theorem GoodC.edgesI {P : Int} {A : List Int} {N S : List (List Int)} {f : List Int} {part : Int} (g : GoodC P A N S f part) {s : QS} (q : QOK N s) {at_ : Nat} (hat : at_ < s.1.length) (h : Edges N A f part (at_ : Int) 0 s) : ∀ k, k ≤ A.length → Edges N A f part (at_ : Int) (k : Int) (quI N A f part s.1 at_ s k)
  | 0, _ => h
  | k + 1, hk => by
    have hp := quI_pre N A f part s.1 at_ s k
    exact (g.edgesI q hat h k (by omega)).step (g.quI_ok q hat k (by omega)) (by have := hp.length_le; omega) (by omega) (getP_pre hp hat)
/-- All of it, as long as there is a next pair. -/
theorem GoodC.quO_all {P : Int} {A : List Int} {N S : List (List Int)} {f : List Int} {part : Int} (g : GoodC P A N S f part) : ∀ k, (∀ j, j < k → j < (quO N A f part j).1.length) → QOK N (quO N A f part k) ∧ Edges N A f part (k : Int) 0 (quO N A f part k)
  | 0, _ => ⟨quO_ok0 g, ⟨fun k h1 h2 => by simp [quO, qAdd, idxK] at h2; omega, fun k k' h1 h2 h3 => by simp [quO, qAdd, idxK] at h3; omega⟩⟩
  | k + 1, h => by
    obtain ⟨h1, h2⟩ := g.quO_all k (fun j hj => h j (by omega))
    have hk := h k (by omega)
    exact ⟨g.quI_ok h1 hk A.length (Nat.le_refl _), (g.edgesI h1 hk h2 A.length (Nat.le_refl _)).later (.inl (by omega))⟩

theorem trace_fuel {fr ac : List Int} {len : Nat} (hb : ∀ k, 0 < k → k < len → 0 ≤ fr.getD k 0 ∧ fr.getD k 0 < (k : Int)) : ∀ n k, k ≤ n → k < len → ∀ m, k ≤ m → traceF fr ac n k = traceF fr ac m k
  | n, 0, _, _, m, _ => by cases n <;> cases m <;> simp [traceF]
  | 0, k + 1, h, _, _, _ => by omega
  | n + 1, k + 1, h, hl, 0, hm => by omega
  | n + 1, k + 1, h, hl, m + 1, hm => by
    have := hb (k + 1) (by omega) hl
    rw [trace_step (by omega), trace_step (by omega), trace_fuel hb n _ (by omega) (by omega) m (by omega)]
/-- The acts of a pair. -/
def pth (s : QS) (k : Nat) : List Int := (traceF s.2.1 s.2.2 k k).reverse
theorem pth_zero (s : QS) : pth s 0 = [] := rfl
theorem QOK.pth_step {N : List (List Int)} {s : QS} (q : QOK N s) {k : Nat} (h0 : 0 < k) (hk : k < s.1.length) : pth s k = pth s (s.2.1.getD k 0).toNat ++ [s.2.2.getD k 0] := by
  have hb := q.back k h0 hk
  unfold pth
  obtain ⟨m, rfl⟩ : ∃ m, k = m + 1 := ⟨k - 1, by omega⟩
  rw [trace_step h0, List.reverse_cons, trace_fuel (len := s.1.length) q.back m _ (by omega) (by omega) (s.2.1.getD (m + 1) 0).toNat (Nat.le_refl _)]
theorem QOK.pth_len {N : List (List Int)} {s : QS} (q : QOK N s) : ∀ n k, k ≤ n → k < s.1.length → (pth s k).length ≤ k
  | _, 0, _, _ => Nat.le_refl _
  | 0, k + 1, h, _ => by omega
  | n + 1, k + 1, h, hk => by
    have hb := q.back (k + 1) (by omega) hk
    have := q.pth_len n (s.2.1.getD (k + 1) 0).toNat (by omega) (by omega)
    rw [q.pth_step (by omega) hk, List.length_append]
    simp only [List.length_cons, List.length_nil]
    omega
theorem pth_in {N : List (List Int)} {A f : List Int} {part i a : Int} {s : QS} (q : QOK N s) (e : Edges N A f part i a s) : ∀ n k, k ≤ n → k < s.1.length → inAll (pth s k) ((A.length : Int) - 1)
  | _, 0, _, _ => fun a ha => by simp [pth_zero] at ha
  | 0, k + 1, h, _ => by omega
  | n + 1, k + 1, h, hk => by
    have hb := q.back (k + 1) (by omega) hk
    have he := e.each (k + 1) (by omega) hk
    rw [q.pth_step (by omega) hk]
    refine inAll_mem.2 fun x hx => ?_
    rcases List.mem_append.1 hx with hx | hx
    · exact inAll_mem.1 (pth_in q e n _ (by omega) (by omega)) x hx
    · rw [List.mem_singleton.1 hx]; omega
theorem purge_app (A f : List Int) (part : Int) (u : List Int) (a : Int) : purgeL A f part (u ++ [a]) = if actOn A f part a = true then purgeL A f part u ++ [a] else purgeL A f part u := by
  unfold purgeL
  rw [List.filter_append, List.filter_cons]
  split
  · rfl
  · simp
theorem run_pair (N : List (List Int)) (A f : List Int) (part : Int) (u : List Int) {a : Int} (ha : 0 ≤ a) : (runN N 0 (u ++ [a]) (u ++ [a]).length, runN N 0 (purgeL A f part (u ++ [a])) (purgeL A f part (u ++ [a])).length) = nxtP N A f part (runN N 0 u u.length, runN N 0 (purgeL A f part u) (purgeL A f part u).length) a.toNat := by
  have ea : ((a.toNat : Nat) : Int) = a := by omega
  unfold nxtP
  rw [ea, List.length_append, show [a].length = 1 from rfl, run_snoc, purge_app]
  split
  · rw [List.length_append, show [a].length = 1 from rfl, run_snoc]
  · rfl
/-- The acts of a pair lead to it. -/
theorem pth_run {N : List (List Int)} {A f : List Int} {part i a : Int} {s : QS} (q : QOK N s) (e : Edges N A f part i a s) (h0 : s.1.getD 0 (0, 0) = (0, 0)) : ∀ n k, k ≤ n → k < s.1.length → (runN N 0 (pth s k) (pth s k).length, runN N 0 (purgeL A f part (pth s k)) (purgeL A f part (pth s k)).length) = s.1.getD k (0, 0)
  | _, 0, _, _ => by rw [h0]; rfl
  | 0, k + 1, h, _ => by omega
  | n + 1, k + 1, h, hk => by
    have hb := q.back (k + 1) (by omega) hk
    obtain ⟨x1, x2, x3, x4⟩ := e.each (k + 1) (by omega) hk
    rw [q.pth_step (by omega) hk, run_pair N A f part _ x1, pth_run q e h0 n _ (by omega) (by omega), ← x3]
/-- They come in order. -/
theorem pth_up {N : List (List Int)} {A f : List Int} {part i a : Int} {s : QS} (q : QOK N s) (e : Edges N A f part i a s) : ∀ n k k', k ≤ n → k' < k → k < s.1.length → slt (pth s k') (pth s k)
  | 0, k, _, h, h1, _ => by omega
  | n + 1, k, k', h, h1, hk => by
    have hb := q.back k (by omega) hk
    rw [q.pth_step (by omega) hk]
    rcases Nat.eq_zero_or_pos k' with h0 | h0
    · subst h0
      exact .inl (by rw [pth_zero]; simp)
    · have hb' := q.back k' h0 (by omega)
      rw [q.pth_step h0 (by omega)]
      rcases e.order k k' h0 h1 hk with h2 | ⟨h2, h3⟩
      · exact slt_app (pth_up q e n _ _ (by omega) (by omega) (by omega)) _ _
      · rw [h2]; exact slt_last h3
theorem quI_pre1 (N : List (List Int)) (A f : List Int) (part : Int) (q0 : List Pr) (at_ : Nat) (s : QS) : ∀ k, s.2.1 <+: (quI N A f part q0 at_ s k).2.1 ∧ s.2.2 <+: (quI N A f part q0 at_ s k).2.2
  | 0 => ⟨List.prefix_rfl, List.prefix_rfl⟩
  | k + 1 => by
    obtain ⟨h1, h2⟩ := quI_pre1 N A f part q0 at_ s k
    rw [quI]
    cases qNew .two (nxtP N A f part (q0.getD at_ (0, 0)) k) (quI N A f part q0 at_ s k).1 with
    | true => exact ⟨h1.trans (List.prefix_append ..), h2.trans (List.prefix_append ..)⟩
    | false => exact ⟨h1, h2⟩
theorem quI_more (N : List (List Int)) (A f : List Int) (part : Int) (q0 : List Pr) (at_ : Nat) (s : QS) (k : Nat) : ∀ m, (quI N A f part q0 at_ s k).1 <+: (quI N A f part q0 at_ s (k + m)).1 ∧ (quI N A f part q0 at_ s k).2.1 <+: (quI N A f part q0 at_ s (k + m)).2.1 ∧ (quI N A f part q0 at_ s k).2.2 <+: (quI N A f part q0 at_ s (k + m)).2.2
  | 0 => ⟨List.prefix_rfl, List.prefix_rfl, List.prefix_rfl⟩
  | m + 1 => by
    obtain ⟨h0, h1, h2⟩ := quI_more N A f part q0 at_ s k m
    rw [← Nat.add_assoc, quI]
    refine ⟨h0.trans (pAdd_pre _ _), ?_⟩
    cases qNew .two (nxtP N A f part (q0.getD at_ (0, 0)) (k + m)) (quI N A f part q0 at_ s (k + m)).1 with
    | true => exact ⟨h1.trans (List.prefix_append ..), h2.trans (List.prefix_append ..)⟩
    | false => exact ⟨h1, h2⟩
theorem quO_pres (N : List (List Int)) (A f : List Int) (part : Int) {i : Nat} : ∀ {j}, i ≤ j → (quO N A f part i).2.1 <+: (quO N A f part j).2.1 ∧ (quO N A f part i).2.2 <+: (quO N A f part j).2.2
  | 0, h => by rw [show i = 0 by omega]; exact ⟨List.prefix_rfl, List.prefix_rfl⟩
  | j + 1, h => by
    rcases Nat.lt_or_ge i (j + 1) with h1 | h1
    · obtain ⟨a, b⟩ := quO_pres N A f part (show i ≤ j by omega)
      obtain ⟨c, d⟩ := quI_pre1 N A f part (quO N A f part j).1 j (quO N A f part j) A.length
      exact ⟨a.trans c, b.trans d⟩
    · rw [show i = j + 1 by omega]; exact ⟨List.prefix_rfl, List.prefix_rfl⟩
/-- Whatever comes ahead of the acts of the last pair ends in an earlier pair. -/
theorem GoodC.ahead {P : Int} {A : List Int} {N S : List (List Int)} {f : List Int} {part : Int} (g : GoodC P A N S f part) {E : Nat} (hE : ∀ j, j ≤ E → j < (quO N A f part j).1.length) : ∀ n (w : List Int), w.length = n → inAll w ((A.length : Int) - 1) → slt w (pth (quO N A f part E) E) →
    ∃ j, j < E ∧ (quO N A f part E).1.getD j (0, 0) = (runN N 0 w w.length, runN N 0 (purgeL A f part w) (purgeL A f part w).length) ∧ sle (pth (quO N A f part E) j) w := by
  obtain ⟨q, e⟩ := g.quO_all E (fun j hj => hE j (by omega))
  have hEl := hE E (Nat.le_refl _)
  have pre0 := getP_pre (quO_mono N A f part (Nat.zero_le E)) (hE 0 (Nat.zero_le _))
  intro n
  induction n with
  | zero =>
    intro w hw _ hlt
    rw [List.eq_nil_of_length_eq_zero hw] at hlt ⊢
    refine ⟨0, ?_, by rw [pre0]; rfl, .inl rfl⟩
    rcases Nat.eq_zero_or_pos E with h | h
    · subst h; exact (slt_irrefl hlt).elim
    · exact h
  | succ n ih =>
    intro w hw hin hlt
    have hne : w ≠ [] := fun h => by rw [h] at hw; cases hw
    obtain ⟨u, a, rfl⟩ : ∃ u a, w = u ++ [a] := ⟨w.dropLast, w.getLast hne, (List.dropLast_concat_getLast hne).symm⟩
    have hin2 := inAll_mem.1 hin
    have ha := hin2 a (by simp)
    obtain ⟨j', hj', hp, hle⟩ := ih u (by simpa using hw) (inAll_mem.2 fun x hx => hin2 x (List.mem_append_left _ hx)) (slt_trans (slt_snoc u a) hlt)
    obtain ⟨q1, e1⟩ := g.quO_all j' (fun i hi => hE i (by omega))
    have hl1 := hE j' (by omega)
    -- the state behind act a of pair j'
    have qm := g.quI_ok q1 hl1 (a.toNat + 1) (by omega)
    have em := g.edgesI q1 hl1 e1 (a.toNat + 1) (by omega)
    have hx1 := getP_pre (quO_mono N A f part (show j' ≤ E by omega)) hl1
    have hm : nxtP N A f part ((quO N A f part j').1.getD j' (0, 0)) a.toNat ∈ (quI N A f part (quO N A f part j').1 j' (quO N A f part j') (a.toNat + 1)).1 := quI_mem.2 (.inr ⟨a.toNat, by omega, rfl⟩)
    rw [← hx1, hp, ← run_pair N A f part u ha.1] at hm
    obtain ⟨k, hk, ek⟩ := List.mem_iff_getElem.1 hm
    have more := quI_more N A f part (quO N A f part j').1 j' (quO N A f part j') (a.toNat + 1) (A.length - (a.toNat + 1))
    rw [show a.toNat + 1 + (A.length - (a.toNat + 1)) = A.length by omega] at more
    have up1 : (quI N A f part (quO N A f part j').1 j' (quO N A f part j') (a.toNat + 1)).1 <+: (quO N A f part E).1 := more.1.trans (quO_mono N A f part (show j' + 1 ≤ E by omega))
    have up2 : (quI N A f part (quO N A f part j').1 j' (quO N A f part j') (a.toNat + 1)).2.1 <+: (quO N A f part E).2.1 := more.2.1.trans (quO_pres N A f part (show j' + 1 ≤ E by omega)).1
    have up3 : (quI N A f part (quO N A f part j').1 j' (quO N A f part j') (a.toNat + 1)).2.2 <+: (quO N A f part E).2.2 := more.2.2.trans (quO_pres N A f part (show j' + 1 ≤ E by omega)).2
    have hkE := up1.length_le
    have hval : (quO N A f part E).1.getD k (0, 0) = (runN N 0 (u ++ [a]) (u ++ [a]).length, runN N 0 (purgeL A f part (u ++ [a])) (purgeL A f part (u ++ [a])).length) := by
      rw [getP_pre up1 hk, ← ek]; simp [List.getD, hk]
    have hsl : sle (pth (quO N A f part E) k) (u ++ [a]) := by
      rcases Nat.eq_zero_or_pos k with h0 | h0
      · subst h0; rw [pth_zero]; exact .inr (.inl (by simp))
      · have hf1 := getD_pre up2 (k := k) (by rw [qm.l1]; exact hk)
        have hf2 := getD_pre up3 (k := k) (by rw [qm.l2]; exact hk)
        obtain ⟨x1, x2, x3, x4⟩ := em.each k h0 hk
        rw [← hf1, ← hf2] at x4
        have hb := q.back k h0 (by omega)
        rw [q.pth_step h0 (by omega)]
        have hj : sle (pth (quO N A f part E) ((quO N A f part E).2.1.getD k 0).toNat ++ [(quO N A f part E).2.2.getD k 0]) (pth (quO N A f part E) j' ++ [a]) := by
          rcases x4 with h1 | ⟨h1, h2⟩
          · exact .inr (slt_app (pth_up q e E _ _ (by omega) (by omega) (by omega)) _ _)
          · rw [h1, Int.toNat_natCast]
            rcases Int.lt_or_eq_of_le (show (quO N A f part E).2.2.getD k 0 ≤ a by omega) with h3 | h3
            · exact .inr (slt_last h3)
            · rw [h3]; exact .inl rfl
        refine sle_trans hj ?_
        rcases hle with h | h
        · rw [h]; exact .inl rfl
        · exact .inr (slt_app h _ _)
    refine ⟨k, ?_, hval, hsl⟩
    rcases Nat.lt_or_ge k E with h | h
    · exact h
    · exfalso
      have h1 := sle_slt hsl hlt
      rcases Nat.lt_or_ge E k with h2 | h2
      · exact slt_irrefl (slt_trans h1 (pth_up q e k k E (Nat.le_refl _) h2 (by omega)))
      · rw [show k = E by omega] at h1; exact slt_irrefl h1
theorem enc_inj {n a b c d : Int} (hb : 0 ≤ b ∧ b < n) (hd : 0 ≤ d ∧ d < n) (h : a * n + b = c * n + d) : a = c ∧ b = d := by
  rcases Int.lt_trichotomy a c with h1 | h1 | h1
  · have := Int.mul_le_mul_of_nonneg_right (show a + 1 ≤ c by omega) (show 0 ≤ n by omega)
    rw [Int.add_mul, Int.one_mul] at this
    omega
  · subst h1; exact ⟨rfl, by omega⟩
  · have := Int.mul_le_mul_of_nonneg_right (show c + 1 ≤ a by omega) (show 0 ≤ n by omega)
    rw [Int.add_mul, Int.one_mul] at this
    omega
theorem few_square {n : Nat} {xs : List Pr} (hd : xs.Nodup) (h : ∀ x ∈ xs, 0 ≤ x.1 ∧ x.1 < (n : Int) ∧ 0 ≤ x.2 ∧ x.2 < (n : Int)) : xs.length ≤ n * n := by
  have h1 : (xs.map fun x => x.1 * (n : Int) + x.2).Nodup := by
    refine List.pairwise_map.2 (List.Pairwise.imp_of_mem (fun {a b} ha hb hne e => ?_) hd)
    have h1 := h a ha
    have h2 := h b hb
    have h3 := enc_inj ⟨h1.2.2.1, h1.2.2.2⟩ ⟨h2.2.2.1, h2.2.2.2⟩ e
    exact hne (Prod.ext h3.1 h3.2)
  have := few_apart (n * n) _ h1 fun x hx => by
    obtain ⟨y, hy, rfl⟩ := List.mem_map.1 hx
    have hh := h y hy
    have h4 := Int.mul_le_mul_of_nonneg_right (show y.1 + 1 ≤ (n : Int) by omega) (show 0 ≤ (n : Int) by omega)
    have h5 := Int.mul_nonneg hh.1 (show 0 ≤ (n : Int) by omega)
    rw [Int.add_mul, Int.one_mul] at h4
    rw [Int.natCast_mul]
    omega
  simpa using this
/-- Where it is loud: what the acts that are told lead to, and what those ahead of them do. -/
theorem GoodC.loud {P : Int} {A : List Int} {N S : List (List Int)} {f : List Int} {part : Int} (g : GoodC P A N S f part) (h : quietB N A f part S = false) :
    ∃ L, L = quPath N A f part (quEnd N A f part S) ∧ inAll L ((A.length : Int) - 1) ∧ L.length ≤ N.length * N.length ∧
      (S.getD (runN N 0 L L.length).toNat []).getD part.toNat 0 ≠ (S.getD (runN N 0 (purgeL A f part L) (purgeL A f part L).length).toNat []).getD part.toNat 0 ∧
      ∀ w, inAll w ((A.length : Int) - 1) → slt w L → (S.getD (runN N 0 w w.length).toNat []).getD part.toNat 0 = (S.getD (runN N 0 (purgeL A f part w) (purgeL A f part w).length).toNat []).getD part.toNat 0 := by
  obtain ⟨hl, hb⟩ := g.qu_loud h
  have hE : ∀ j, j ≤ quEnd N A f part S → j < (quO N A f part j).1.length := fun j hj => by
    rcases Nat.lt_or_ge j (quEnd N A f part S) with h1 | h1
    · exact (g.qu_long h1).1
    · rw [show j = quEnd N A f part S by omega]; exact hl
  obtain ⟨q, e⟩ := g.quO_all (quEnd N A f part S) (fun j hj => hE j (by omega))
  have pre0 := getP_pre (quO_mono N A f part (Nat.zero_le (quEnd N A f part S))) (hE 0 (Nat.zero_le _))
  have hrun := pth_run q e (by rw [pre0]; rfl) _ _ (Nat.le_refl _) hl
  refine ⟨_, rfl, pth_in q e _ _ (Nat.le_refl _) hl, ?_, ?_, fun w hw hs => ?_⟩
  · have h1 := q.pth_len _ _ (Nat.le_refl _) hl
    have h2 := few_square q.apart q.rng
    show (pth (quO N A f part (quEnd N A f part S)) (quEnd N A f part S)).length ≤ _
    omega
  · have h1 := of_decide_eq_true hb
    rw [← hrun] at h1
    exact h1
  · obtain ⟨j, hj, hv, _⟩ := g.ahead hE _ w rfl hw hs
    have h1 := (g.qu_long hj).2
    have h2 := getP_pre (quO_mono N A f part (Nat.le_of_lt hj)) (hE j (by omega))
    unfold quBad at h1
    rw [← h2, hv] at h1
    exact Decidable.not_not.1 (of_decide_eq_false h1)

end Go.Proofs.YtndoigkmdcgjfaaDoor
