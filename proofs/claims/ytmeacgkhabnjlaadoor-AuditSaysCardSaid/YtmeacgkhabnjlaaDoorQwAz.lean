/-
  WALKS of the document's answers on sums: what is wrong with asks, all sums, the twin. Laid by a program of mine out of the operations, with the loops and results told by hand.
-/
import Derived.Test.YtmeacgkhabnjlaaDoorQwAy
namespace Go.Proofs.YtmeacgkhabnjlaaDoor
open Go Go.Qw
set_option maxRecDepth 10000
set_option linter.unusedSimpArgs false
set_option linter.unusedVariables false
set_option linter.unusedSectionVars false

/-! ### All sums -/
inductive Sp (B : Nat → Nat) : Nat → Prop
  | zero : Sp B 0
  | add {x : Nat} (i : Nat) (h : Sp B x) : Sp B (x ^^^ B i)
theorem Sp.one (B : Nat → Nat) (i : Nat) : Sp B (B i) := by
  have := Sp.add i (Sp.zero (B := B))
  rwa [Nat.zero_xor] at this
theorem Sp.plus {B : Nat → Nat} {x y : Nat} (hx : Sp B x) (hy : Sp B y) : Sp B (x ^^^ y) := by
  induction hy with
  | zero => rwa [Nat.xor_zero]
  | add i _ ih => rw [← Nat.xor_assoc]; exact .add i ih
theorem cut_sp (B : Nat → Nat) (s : Nat) : ∀ j, Sp B (s ^^^ cutS B s j)
  | 0 => by rw [cutS, Nat.xor_self]; exact .zero
  | j + 1 => by
    have ih := cut_sp B s j
    rw [cutS]
    split
    · rw [← Nat.xor_assoc]; exact .add _ ih
    · exact ih
theorem sp_of_cut {B : Nat → Nat} {s : Nat} (h : cutV B s = 0) : Sp B s := by
  have := cut_sp B s 12
  rwa [show cutS B s 12 = 0 from h, Nat.xor_zero] at this
theorem Sp.lin {B : Nat → Nat} {x : Nat} (h : Sp B x) {φ : Nat → Bool} (hl : Lin φ) (h0 : ∀ i, φ (B i) = false) : φ x = false := by
  induction h with
  | zero => exact hl.zero
  | add i _ ih => rw [hl, ih, h0]; rfl
theorem Bas.other {n : Nat} (hn : n ≤ 12) {p : (Nat → Nat) × Nat} (hb : Bas n p) {s : Nat} (hs : s < 2 ^ n) (h0 : cutV p.1 s ≠ 0) : ∃ x, parB (s &&& x) = true ∧ ∀ i, parB (p.1 i &&& x) = false := by
  have hlt : cutV p.1 s < 2 ^ n := hb.ech.cutS_lt hs 12
  have hz : ∀ i, parB (p.1 i &&& fillX p.1 (Nat.log2 (cutV p.1 s)) n) = false := fun i => by
    by_cases hi : p.1 i = 0
    · rw [hi, Nat.zero_and, par_zero]
    · exact hb.ech.fill_at _ (Nat.lt_of_not_le fun hh => hi (hb.ech.lim i hh)) hi
  refine ⟨fillX p.1 (Nat.log2 (cutV p.1 s)) n, ?_, hz⟩
  have e := cutS_lin (par_lin (fillX p.1 (Nat.log2 (cutV p.1 s)) n)) hz s 12
  have e : parB (cutV p.1 s &&& fillX p.1 (Nat.log2 (cutV p.1 s)) n) = parB (s &&& fillX p.1 (Nat.log2 (cutV p.1 s)) n) := e
  rw [← e]
  have e2 : cutV p.1 s &&& fillX p.1 (Nat.log2 (cutV p.1 s)) n = 2 ^ Nat.log2 (cutV p.1 s) := Nat.eq_of_testBit_eq fun i => by
    rw [Nat.testBit_and, Nat.testBit_two_pow]
    cases hi : (cutV p.1 s).testBit i with
    | false =>
      rw [Bool.false_and, eq_comm, decide_eq_false_iff_not]
      intro hh; subst hh; rw [log_bit h0] at hi; cases hi
    | true =>
      have hin : i < n := by
        apply Nat.lt_of_not_le
        intro hle
        rw [Nat.testBit_lt_two_pow (Nat.lt_of_lt_of_le hlt (Nat.pow_le_pow_right (by decide) hle))] at hi
        cases hi
      have hf := hb.free (by omega) hi
      have := fillX_low p.1 (Nat.log2 (cutV p.1 s)) (show i < i + 1 by omega) (n - (i + 1))
      rw [show i + 1 + (n - (i + 1)) = n by omega] at this
      rw [this, fill_free hf, Bool.true_and]
      exact decide_eq_decide.2 eq_comm
  rw [e2, par_pow]
theorem Bas.sp_cut {n : Nat} (hn : n ≤ 12) {p : (Nat → Nat) × Nat} (hb : Bas n p) {s : Nat} (hs : s < 2 ^ n) (h : Sp p.1 s) : cutV p.1 s = 0 := by
  refine Decidable.byContradiction fun h0 => ?_
  obtain ⟨x, h1, h2⟩ := hb.other hn hs h0
  have := h.lin (par_lin x) h2
  have this : parB (s &&& x) = false := this
  rw [h1] at this
  cases this
theorem Bas.step_sp {n : Nat} (hn : n ≤ 12) {p : (Nat → Nat) × Nat} (hb : Bas n p) {a : Nat} (ha : a < 2 ^ n) {s : Nat} (hs : s < 2 ^ n) : cutV (stepB p a).1 s = 0 ↔ cutV p.1 s = 0 ∨ cutV p.1 (s ^^^ a) = 0 := by
  have hb' := hb.step hn ha
  have hsa : s ^^^ a < 2 ^ n := Nat.xor_lt_two_pow hs ha
  have hra : Sp p.1 (a ^^^ cutV p.1 a) := cut_sp p.1 a 12
  by_cases h0 : cutV p.1 a = 0
  · rw [show stepB p a = p by rw [stepB, if_pos h0]]
    refine ⟨.inl, fun h => h.elim id fun h => ?_⟩
    refine hb.sp_cut hn hs ?_
    have := (sp_of_cut h).plus (sp_of_cut h0)
    rwa [Nat.xor_assoc, Nat.xor_self, Nat.xor_zero] at this
  · have e : (stepB p a).1 = setB p.1 (Nat.log2 (cutV p.1 a)) (cutV p.1 a) := by rw [stepB, if_neg h0]
    have hfree := hb.free (s := a) (by have := log_lt h0 (hb.ech.cutS_lt ha 12); omega) (log_bit h0)
    constructor
    · intro h
      have key : ∀ x, Sp (stepB p a).1 x → Sp p.1 x ∨ Sp p.1 (x ^^^ a) := fun x hx => by
        induction hx with
        | zero => exact .inl .zero
        | add i _ ih =>
          rename_i y _
          rw [e]
          unfold setB
          by_cases hi : i = Nat.log2 (cutV p.1 a)
          · rw [if_pos hi]
            rcases ih with ih | ih
            · refine .inr ?_
              rw [Nat.xor_assoc, Nat.xor_comm (cutV p.1 a) a]
              exact ih.plus hra
            · refine .inl ?_
              have := ih.plus hra
              rwa [Nat.xor_assoc, ← Nat.xor_assoc a a, Nat.xor_self, Nat.zero_xor] at this
          · rw [if_neg hi]
            rcases ih with ih | ih
            · exact .inl (.add i ih)
            · refine .inr ?_
              rw [Nat.xor_assoc, Nat.xor_comm (p.1 i) a, ← Nat.xor_assoc]
              exact .add i ih
      rcases key s (sp_of_cut h) with h1 | h1
      · exact .inl (hb.sp_cut hn hs h1)
      · exact .inr (hb.sp_cut hn hsa h1)
    · intro h
      have up : ∀ x, Sp p.1 x → Sp (stepB p a).1 x := fun x hx => by
        induction hx with
        | zero => exact .zero
        | add i _ ih =>
          by_cases hi : i = Nat.log2 (cutV p.1 a)
          · rw [hi, hfree, Nat.xor_zero]; exact ih
          · have := Sp.add i ih
            rw [show (stepB p a).1 i = p.1 i by rw [e]; unfold setB; rw [if_neg hi]] at this
            exact this
      have hr : Sp (stepB p a).1 (cutV p.1 a) := by
        have := Sp.one (stepB p a).1 (Nat.log2 (cutV p.1 a))
        rwa [show (stepB p a).1 (Nat.log2 (cutV p.1 a)) = cutV p.1 a by rw [e]; unfold setB; rw [if_pos rfl]] at this
      have hsa' : Sp (stepB p a).1 a := by
        have := (up _ hra).plus hr
        rwa [Nat.xor_assoc, Nat.xor_self, Nat.xor_zero] at this
      refine hb'.sp_cut hn hs ?_
      rcases h with h | h
      · exact up _ (sp_of_cut h)
      · have := (up _ (sp_of_cut h)).plus hsa'
        rwa [Nat.xor_assoc, Nat.xor_self, Nat.xor_zero] at this
def sumL (m : Nat) (B : Nat → Nat) : List Bool := (List.range m).map fun s => decide (cutV B s = 0)
theorem sumL_len (m : Nat) (B : Nat → Nat) : (sumL m B).length = m := by simp [sumL]
theorem sumL_get {m : Nat} {B : Nat → Nat} {s : Nat} (h : s < m) : (sumL m B).getD s false = decide (cutV B s = 0) := by simp [sumL, List.getD, h]
def moreL (L : List Bool) (a i : Nat) : List Bool := (List.range i).map fun s => L.getD s false || L.getD (s ^^^ a) false
theorem moreL_len (L : List Bool) (a i : Nat) : (moreL L a i).length = i := by simp [moreL]
theorem moreL_app (L : List Bool) (a i : Nat) : moreL L a i ++ [L.getD i false || L.getD (i ^^^ a) false] = moreL L a (i + 1) := by simp [moreL, List.range_succ]
theorem Bas.more_sum {n : Nat} (hn : n ≤ 12) {p : (Nat → Nat) × Nat} (hb : Bas n p) {a : Nat} (ha : a < 2 ^ n) : moreL (sumL (2 ^ n) p.1) a (2 ^ n) = sumL (2 ^ n) (stepB p a).1 := by
  show (List.range (2 ^ n)).map (fun s => (sumL (2 ^ n) p.1).getD s false || (sumL (2 ^ n) p.1).getD (s ^^^ a) false) = (List.range (2 ^ n)).map (fun s => decide (cutV (stepB p a).1 s = 0))
  refine List.map_congr_left fun s hs => ?_
  have hs := List.mem_range.1 hs
  rw [sumL_get hs, sumL_get (Nat.xor_lt_two_pow hs ha), Bool.eq_iff_iff, Bool.or_eq_true, decide_eq_true_eq, decide_eq_true_eq, decide_eq_true_eq]
  exact (hb.step_sp hn ha hs).symm
theorem cut_none (s : Nat) : ∀ j, cutS (fun _ => 0) s j = s
  | 0 => rfl
  | j + 1 => by rw [cutS, if_neg (fun h => h.2 rfl), cut_none s j]
theorem sum_none {m : Nat} : (List.replicate m false).set 0 true = sumL m fun _ => 0 := by
  unfold sumL
  refine List.ext_getElem (by simp) fun k h1 h2 => ?_
  simp only [List.getElem_map, List.getElem_range, List.getElem_set, List.getElem_replicate]
  rw [show cutV (fun _ => 0) k = k from cut_none k 12]
  by_cases hk : 0 = k
  · subst hk; rfl
  · rw [if_neg hk, decide_eq_false (fun h => hk h.symm)]
theorem sum_xor : ∀ a b : Nat, a + b = (a ^^^ b) + 2 * (a &&& b) := by
  intro a
  induction a using Nat.strongRecOn with
  | ind a ih =>
    intro b
    by_cases ha : a = 0
    · subst ha; simp
    · have h1 := ih (a / 2) (by omega) (b / 2)
      have e1 : (a ^^^ b) / 2 = a / 2 ^^^ b / 2 := Nat.xor_div_two
      have e2 : (a &&& b) / 2 = a / 2 &&& b / 2 := Nat.and_div_two
      have hx := Nat.testBit_xor a b 0
      have hy := Nat.testBit_and a b 0
      rw [Nat.testBit_zero, Nat.testBit_zero, Nat.testBit_zero] at hx hy
      have e3 : (a ^^^ b) % 2 = (a + b) % 2 := by
        by_cases p : a % 2 = 1 <;> by_cases q : b % 2 = 1 <;> by_cases r : (a ^^^ b) % 2 = 1 <;> simp [p, q, r] at hx <;> omega
      have e4 : (a &&& b) % 2 = (a % 2) * (b % 2) := by
        rcases Nat.mod_two_eq_zero_or_one a with p | p <;> rcases Nat.mod_two_eq_zero_or_one b with q | q <;> rcases Nat.mod_two_eq_zero_or_one (a &&& b) with r | r <;> simp [p, q, r] at hy ⊢
      rcases Nat.mod_two_eq_zero_or_one a with p | p <;> rcases Nat.mod_two_eq_zero_or_one b with q | q <;> rw [p, q] at e4 <;> omega
/-- The document's way to the twin. -/
def okB (asks : List Int) (bits s : Int) (x : Nat) : Nat → Bool
  | 0 => parB ((x ^^^ bits.toNat) &&& s.toNat)
  | i + 1 => okB asks bits s x i && !parB ((x ^^^ bits.toNat) &&& (asks.getD i 0).toNat)


theorem okB_iff {asks : List Int} {bits s : Int} {x : Nat} : ∀ {i}, okB asks bits s x i = true ↔ parB ((x ^^^ bits.toNat) &&& s.toNat) = true ∧ ∀ j, j < i → parB ((x ^^^ bits.toNat) &&& (asks.getD j 0).toNat) = false
  | 0 => ⟨fun h => ⟨h, fun j hj => by omega⟩, fun h => h.1⟩
  | i + 1 => by
    rw [okB, Bool.and_eq_true, okB_iff (i := i), Bool.not_eq_true']
    constructor
    · rintro ⟨⟨h1, h2⟩, h3⟩
      refine ⟨h1, fun j hj => ?_⟩
      by_cases he : j = i
      · subst he; exact h3
      · exact h2 j (by omega)
    · exact fun h => ⟨⟨h.1, fun j hj => h.2 j (by omega)⟩, h.2 i (by omega)⟩
theorem okB_tw {asks : List Int} {bits s : Int} {x i : Nat} (hi : i ≤ asks.length) (h : i = asks.length ∨ okB asks bits s x i = false) : okB asks bits s x i = twOK asks bits s x := by
  rw [Bool.eq_iff_iff, okB_iff, twOK_iff]
  rcases h with h | h
  · rw [h]
  · constructor
    · intro hh
      rw [okB_iff.2 hh] at h
      cases h
    · intro hh
      have := okB_iff (i := i).2 ⟨hh.1, fun j hj => hh.2 j (by omega)⟩
      rw [this] at h; cases h
theorem odd_diff {x : Nat} {b s : Nat} : (decide (((popN (x &&& s) % 2 : Nat) : Int) ≠ ((popN (b &&& s) % 2 : Nat) : Int))) = parB ((x ^^^ b) &&& s) := by
  rw [par_split, Nat.and_comm s x, Nat.and_comm s b]
  have h1 := Nat.mod_two_eq_zero_or_one (popN (x &&& s))
  have h2 := Nat.mod_two_eq_zero_or_one (popN (b &&& s))
  unfold parB
  rcases h1 with h1 | h1 <;> rcases h2 with h2 | h2 <;> rw [h1, h2] <;> decide
theorem odd_same {x : Nat} {b s : Nat} : (decide (((popN (x &&& s) % 2 : Nat) : Int) = ((popN (b &&& s) % 2 : Nat) : Int))) = !parB ((x ^^^ b) &&& s) := by
  rw [par_split, Nat.and_comm s x, Nat.and_comm s b]
  have h1 := Nat.mod_two_eq_zero_or_one (popN (x &&& s))
  have h2 := Nat.mod_two_eq_zero_or_one (popN (b &&& s))
  unfold parB
  rcases h1 with h1 | h1 <;> rcases h2 with h2 | h2 <;> rw [h1, h2] <;> decide
def twinK (z : Int) (asks : List Int) (bits s : Int) : Int := match twinO z asks bits s with
  | some x => (x : Int)
  | none => -1

theorem in4_fn (n lo hi : Int) : LiftsD Tryd.prog 36 [.i n, .i lo, .i hi] (.b (decide (lo ≤ n ∧ n ≤ hi))) := by
  refine LiftsD.of_body 15 [.tmp 6] Tryd.func36 rfl Tryd.ntmps36 (by kernel_rfl) rfl rfl fun w0 X0 => ?_
  refine AWPD.seq fun K1 hK1 => ?_
  -- region 0
  refine AWPD.keep [0, 1, 2] rfl ?_
  refine AWPD.region tabOK rfl ?_
  refine hK1 _ _ ?_
  clear hK1
  refine AWPD.seq fun K2 hK2 => ?_
  -- region 1
  refine AWPD.keep [0, 1, 2] rfl ?_
  refine AWPD.region tabOK rfl ?_
  repeat refine And.intro (by first | exact fun h => h | exact fun _ => rfl | (intro h; rw [h]; rfl) | omega | (intros; (try dsimp only [Ty.T, Ty.size]); (try simp only [castL_self, Int.toNat_natCast, Int.toNat_zero, Int.toNat_one, true_and, List.length_append, List.length_set, List.length_drop, List.length_take, List.length_replicate, List.length_cons, List.length_nil, Nat.zero_add, Nat.mul_one]); omega) | decide | (intros; simp_all; done) | (intros; simp_all; omega)) ?_
  refine hK2 _ _ ?_
  clear hK2
  refine AWPD.ret (And.intro (.inl rfl) ?_)
  -- result 0
  refine RetD.one ?_
  refine fitB rfl ?_
  show (bif decide (lo ≤ n) then decide (n ≤ hi) else false) = decide (lo ≤ n ∧ n ≤ hi)
  simp
theorem rmask_fn (s n : Int) (hn : 0 ≤ n ∧ n ≤ 61) : LiftsD Tryd.prog 17 [.i s, .i n] (.b (maskB s n)) := by
  have hp := powN_le (k := n.toNat) (by omega)
  refine LiftsD.of_body 13 [.tmp 4] Tryd.func17 rfl Tryd.ntmps17 (by kernel_rfl) rfl rfl fun w0 X0 => ?_
  refine AWPD.seq fun K1 hK1 => ?_
  -- region 0
  refine AWPD.keep [0, 1] rfl ?_
  refine AWPD.region tabOK rfl ?_
  refine hK1 _ _ ?_
  clear hK1
  refine AWPD.seq fun K2 hK2 => ?_
  -- region 1
  refine AWPD.keep [0, 1] rfl ?_
  refine AWPD.region tabOK rfl ?_
  repeat refine And.intro (by first | exact fun h => h | exact fun _ => rfl | (intro h; rw [h]; rfl) | omega | (intros; (try dsimp only [Ty.T, Ty.size]); (try simp only [castL_self, Int.toNat_natCast, Int.toNat_zero, Int.toNat_one, true_and, List.length_append, List.length_set, List.length_drop, List.length_take, List.length_replicate, List.length_cons, List.length_nil, Nat.zero_add, Nat.mul_one]); omega) | decide | (intros; simp_all; done) | (intros; simp_all; omega)) ?_
  refine Exists.intro _ (Exists.intro _ (And.intro (fun hg => StepD.call (pow2_fn _ (by omega)) rfl rfl rfl) (And.intro (fun hf => rfl) (And.intro rfl (And.intro trivial ?_)))))
  repeat refine And.intro (by first | exact fun h => h | exact fun _ => rfl | (intro h; rw [h]; rfl) | omega | (intros; (try dsimp only [Ty.T, Ty.size]); (try simp only [castL_self, Int.toNat_natCast, Int.toNat_zero, Int.toNat_one, true_and, List.length_append, List.length_set, List.length_drop, List.length_take, List.length_replicate, List.length_cons, List.length_nil, Nat.zero_add, Nat.mul_one]); omega) | decide | (intros; simp_all; done) | (intros; simp_all; omega)) ?_
  refine hK2 _ _ ?_
  clear hK2
  refine AWPD.ret (And.intro (.inl rfl) ?_)
  -- result 0
  refine RetD.one ?_
  refine fitB rfl ?_
  show (bif decide (0 ≤ s) then decide (s < ((2 ^ n.toNat : Nat) : Int)) else false) = maskB s n
  simp [maskB]
theorem asks_fn (z : Int) (asks : List Int) : LiftsD Tryd.prog 13 [.i z, .sl .int asks] (.i (askE z asks)) := by
  refine LiftsD.of_body 25 [.tmp 4] Tryd.func13 rfl Tryd.ntmps13 (by kernel_rfl) rfl rfl fun w0 X0 => ?_
  refine AWPD.seq fun K1 hK1 => ?_
  -- region 0
  refine AWPD.keep [0, 1] rfl ?_
  refine AWPD.region tabOK rfl ?_
  refine hK1 _ _ ?_
  clear hK1
  refine AWPD.seq fun K2 hK2 => ?_
  refine AWPD.seq fun K3 hK3 => ?_
  -- region 1
  refine AWPD.keep [0, 1] rfl ?_
  refine AWPD.region tabOK rfl ?_
  refine Exists.intro _ (Exists.intro _ (And.intro (StepD.call (in4_fn _ _ _) rfl rfl rfl) (And.intro rfl (And.intro trivial ?_))))
  refine hK3 _ _ ?_
  clear hK3
  first | refine AWPD.cond rfl (fun h0 => ?_) (fun h0 => ?_)
  · try dsimp only [Ty.T] at h0
    try simp only [castL_self] at h0
    try simp only [Int.toNat_natCast] at h0
    try simp only [Int.toNat_zero] at h0
    have h0 : ¬(0 ≤ z ∧ z ≤ 12) := by simp at h0; omega
    refine AWPD.seq fun K4 hK4 => ?_
    -- region 2
    refine AWPD.keep [] rfl ?_
    refine AWPD.region tabOK rfl ?_
    refine hK4 _ _ ?_
    clear hK4
    refine AWPD.ret (And.intro (.inl rfl) ?_)
    -- result 0
    refine RetD.one ?_
    exact fitI rfl (by unfold askE; rw [if_pos h0])
  · try dsimp only [Ty.T] at h0
    try simp only [castL_self] at h0
    try simp only [Int.toNat_natCast] at h0
    try simp only [Int.toNat_zero] at h0
    have h0 : 0 ≤ z ∧ z ≤ 12 := by simpa using h0
    refine AWPD.skip ?_
    refine hK2 _ _ ?_
    clear hK2
    refine AWPD.seq fun K5 hK5 => ?_
    refine AWPD.seq fun K6 hK6 => ?_
    -- region 3
    refine AWPD.keep [0, 1] rfl ?_
    refine AWPD.region tabOK rfl ?_
    refine hK6 _ _ ?_
    clear hK6
    first | refine AWPD.condP rfl (fun h1 => ?_) (fun h1 => ?_) | refine AWPD.condN rfl (fun h1 => ?_) (fun h1 => ?_) | refine AWPD.condAP rfl (fun h1 => ?_) (fun h1 => ?_) | refine AWPD.condOP rfl (fun h1 => ?_) (fun h1 => ?_) | refine AWPD.condONN rfl (fun h1 => ?_) (fun h1 => ?_) | refine AWPD.condOPN rfl (fun h1 => ?_) (fun h1 => ?_) | refine AWPD.condA rfl (fun h1 => ?_) (fun h1 => ?_) | refine AWPD.condO rfl (fun h1 => ?_) (fun h1 => ?_) | refine AWPD.cond rfl (fun h1 => ?_) (fun h1 => ?_)
    · try dsimp only [Ty.T] at h1
      try simp only [castL_self] at h1
      try simp only [Int.toNat_natCast] at h1
      try simp only [Int.toNat_zero] at h1
      refine AWPD.seq fun K7 hK7 => ?_
      -- region 4
      refine AWPD.keep [] rfl ?_
      refine AWPD.region tabOK rfl ?_
      refine hK7 _ _ ?_
      clear hK7
      refine AWPD.ret (And.intro (.inl rfl) ?_)
      -- result 1
      refine RetD.one ?_
      exact fitI rfl (by unfold askE; rw [if_neg (fun h => h h0), if_pos (by omega)])
    · try dsimp only [Ty.T] at h1
      try simp only [castL_self] at h1
      try simp only [Int.toNat_natCast] at h1
      try simp only [Int.toNat_zero] at h1
      refine AWPD.skip ?_
      refine hK5 _ _ ?_
      clear hK5
      refine AWPD.seq fun K8 hK8 => ?_
      refine AWPD.seq fun K9 hK9 => ?_
      -- region 5
      refine AWPD.keep [0, 1] rfl ?_
      refine AWPD.region tabOK rfl ?_
      refine hK9 _ _ ?_
      clear hK9
      refine AWPD.block ?_
      -- LOOP 0 live [0, 1, 5] changed [5]
      refine AWPD.loopK (σ := Nat) [0, 1] (fun i base => (5, .i (i : Int)) :: base) (fun _ => []) (fun n i => n + i = asks.length ∧ ∀ j, j < i → maskB (asks.getD j 0) z = true) (asks.length) 0 [] rfl rfl (⟨by omega, by intro j hj; omega⟩) (by decide) trivial (by repeat' first | exact True.intro | exact rfl | exact ⟨rfl, rfl⟩ | refine And.intro ?_ ?_) fun n0 i hI0 => ?_
      obtain ⟨hn0, hv0⟩ := hI0
      refine AWPD.seq fun K10 hK10 => ?_
      refine AWPD.seq fun K11 hK11 => ?_
      -- region 6
      refine AWPD.keep [0, 1, 5] rfl ?_
      refine AWPD.region tabOK rfl ?_
      refine hK11 _ _ ?_
      clear hK11
      first | refine AWPD.condP rfl (fun h2 => ?_) (fun h2 => ?_) | refine AWPD.condN rfl (fun h2 => ?_) (fun h2 => ?_) | refine AWPD.condAP rfl (fun h2 => ?_) (fun h2 => ?_) | refine AWPD.condOP rfl (fun h2 => ?_) (fun h2 => ?_) | refine AWPD.condONN rfl (fun h2 => ?_) (fun h2 => ?_) | refine AWPD.condOPN rfl (fun h2 => ?_) (fun h2 => ?_) | refine AWPD.condA rfl (fun h2 => ?_) (fun h2 => ?_) | refine AWPD.condO rfl (fun h2 => ?_) (fun h2 => ?_) | refine AWPD.cond rfl (fun h2 => ?_) (fun h2 => ?_)
      · try dsimp only [Ty.T] at h2
        try simp only [castL_self] at h2
        try simp only [Int.toNat_natCast] at h2
        try simp only [Int.toNat_zero] at h2
        refine AWPD.skip ?_
        refine hK10 _ _ ?_
        clear hK10
        refine AWPD.seq fun K12 hK12 => ?_
        refine AWPD.block ?_
        refine AWPD.seq fun K13 hK13 => ?_
        -- region 8
        refine AWPD.keep [0, 1, 5] rfl ?_
        refine AWPD.region tabOK rfl ?_
        repeat refine And.intro (by first | exact fun h => h | exact fun _ => rfl | (intro h; rw [h]; rfl) | omega | (intros; (try dsimp only [Ty.T, Ty.size]); (try simp only [castL_self, Int.toNat_natCast, Int.toNat_zero, Int.toNat_one, true_and, List.length_append, List.length_set, List.length_drop, List.length_take, List.length_replicate, List.length_cons, List.length_nil, Nat.zero_add, Nat.mul_one]); omega) | decide | (intros; simp_all; done) | (intros; simp_all; omega)) ?_
        refine Exists.intro _ (Exists.intro _ (And.intro (StepD.call (rmask_fn _ _ (by omega)) rfl rfl rfl) (And.intro rfl (And.intro trivial ?_))))
        refine hK13 _ _ ?_
        clear hK13
        first | refine AWPD.cond rfl (fun h3 => ?_) (fun h3 => ?_)
        · try dsimp only [Ty.T] at h3
          try simp only [castL_self] at h3
          try simp only [Int.toNat_natCast] at h3
          try simp only [Int.toNat_zero] at h3
          have h3 : ¬maskB (asks.getD i 0) z = true := by simpa using h3
          refine AWPD.seq fun K14 hK14 => ?_
          -- region 9
          refine AWPD.keep [] rfl ?_
          refine AWPD.region tabOK rfl ?_
          refine hK14 _ _ ?_
          clear hK14
          refine AWPD.ret (And.intro (.inl rfl) ?_)
          -- result 2
          refine RetD.one ?_
          exact fitI rfl (by unfold askE; rw [if_neg (fun h => h h0), if_neg (by omega), if_neg (fun h => h3 (h i (by omega)))])
        · try dsimp only [Ty.T] at h3
          try simp only [castL_self] at h3
          try simp only [Int.toNat_natCast] at h3
          try simp only [Int.toNat_zero] at h3
          have h3 : maskB (asks.getD i 0) z = true := by simpa using h3
          refine AWPD.skip ?_
          refine hK12 _ _ ?_
          clear hK12
          -- region 7
          refine AWPD.keep [0, 1, 5] rfl ?_
          refine AWPD.region tabOK rfl ?_
          repeat refine And.intro (by first | exact fun h => h | exact fun _ => rfl | (intro h; rw [h]; rfl) | omega | (intros; (try dsimp only [Ty.T, Ty.size]); (try simp only [castL_self, Int.toNat_natCast, Int.toNat_zero, Int.toNat_one, true_and, List.length_append, List.length_set, List.length_drop, List.length_take, List.length_replicate, List.length_cons, List.length_nil, Nat.zero_add, Nat.mul_one]); omega) | decide | (intros; simp_all; done) | (intros; simp_all; omega)) ?_
          refine ⟨n0 - 1, i + 1, [], by omega, ⟨by omega, fun j hj => by
              rcases Nat.lt_or_ge j i with h | h
              · exact hv0 j h
              · rw [show j = i by omega]; exact h3⟩, ⟨by decide, rfl⟩, trivial, ?_⟩
          repeat' first | exact True.intro | exact rfl | exact ⟨rfl, rfl⟩ | refine And.intro ?_ ?_
      · try dsimp only [Ty.T] at h2
        try simp only [castL_self] at h2
        try simp only [Int.toNat_natCast] at h2
        try simp only [Int.toNat_zero] at h2
        refine AWPD.exit ?_
        refine hK8 _ _ ?_
        clear hK8
        refine AWPD.seq fun K15 hK15 => ?_
        -- region 10
        refine AWPD.keep [] rfl ?_
        refine AWPD.region tabOK rfl ?_
        refine hK15 _ _ ?_
        clear hK15
        refine AWPD.ret (And.intro (.inl rfl) ?_)
        -- result 3
        refine RetD.one ?_
        exact fitI rfl (by unfold askE; rw [if_neg (fun h => h h0), if_neg (by omega), if_pos (fun j hj => hv0 j (by omega))])
theorem sum4_fn (a b : Int) (ha : 0 ≤ a ∧ a ≤ 4095) (hb : 0 ≤ b ∧ b ≤ 4095) : LiftsD Tryd.prog 52 [.i a, .i b] (.i ((a.toNat ^^^ b.toNat : Nat) : Int)) := by
  have hsx := sum_xor a.toNat b.toNat
  have hle : a.toNat &&& b.toNat ≤ a.toNat := Nat.and_le_left
  refine LiftsD.of_body 13 [.tmp 4] Tryd.func52 rfl Tryd.ntmps52 (by kernel_rfl) rfl rfl fun w0 X0 => ?_
  refine AWPD.seq fun K1 hK1 => ?_
  -- region 0
  refine AWPD.keep [0, 1] rfl ?_
  refine AWPD.region tabOK rfl ?_
  refine hK1 _ _ ?_
  clear hK1
  refine AWPD.seq fun K2 hK2 => ?_
  -- region 1
  refine AWPD.keep [0, 1] rfl ?_
  refine AWPD.region tabOK rfl ?_
  repeat refine And.intro (by first | exact fun h => h | exact fun _ => rfl | (intro h; rw [h]; rfl) | omega | (intros; (try dsimp only [Ty.T, Ty.size]); (try simp only [castL_self, Int.toNat_natCast, Int.toNat_zero, Int.toNat_one, true_and, List.length_append, List.length_set, List.length_drop, List.length_take, List.length_replicate, List.length_cons, List.length_nil, Nat.zero_add, Nat.mul_one]); omega) | decide | (intros; simp_all; done) | (intros; simp_all; omega)) ?_
  refine Exists.intro _ (Exists.intro _ (And.intro (StepD.call (both_fn _ _ (by omega) (by omega)) rfl rfl rfl) (And.intro rfl (And.intro trivial ?_))))
  repeat refine And.intro (by first | exact fun h => h | exact fun _ => rfl | (intro h; rw [h]; rfl) | omega | (intros; (try dsimp only [Ty.T, Ty.size]); (try simp only [castL_self, Int.toNat_natCast, Int.toNat_zero, Int.toNat_one, true_and, List.length_append, List.length_set, List.length_drop, List.length_take, List.length_replicate, List.length_cons, List.length_nil, Nat.zero_add, Nat.mul_one]); omega) | decide | (intros; simp_all; done) | (intros; simp_all; omega)) ?_
  refine hK2 _ _ ?_
  clear hK2
  refine AWPD.ret (And.intro (.inl rfl) ?_)
  -- result 0
  refine RetD.one ?_
  exact fitI rfl (by omega)
theorem more_fn (k : Nat) (L : List Bool) (a : Int) (hk : k ≤ 12) (hL : L.length = 2 ^ k) (ha : 0 ≤ a ∧ a.toNat < 2 ^ k) : LiftsN Tryd.prog 39 [.sl .bool L, .i a] (.row 4 .bool (moreL L a.toNat L.length)) := by
  have hp := pow12 hk
  refine LiftsN.of_body 29 [.tmp 4] Tryd.func39 rfl Tryd.ntmps39 (by kernel_rfl) rfl rfl fun w0 X0 => ?_
  refine AWPD.seq fun K1 hK1 => ?_
  -- region 0
  refine AWPD.keep [0, 1] rfl ?_
  refine AWPD.region tabOK rfl ?_
  refine hK1 _ _ ?_
  clear hK1
  refine AWPD.seq fun K2 hK2 => ?_
  -- region 1
  refine AWPD.keep [0, 1] rfl ?_
  refine AWPD.region tabOK rfl ?_
  refine hK2 _ _ ?_
  clear hK2
  refine AWPD.seq fun K3 hK3 => ?_
  refine AWPD.seq fun K4 hK4 => ?_
  -- region 2
  refine AWPD.keep [0, 1, 5] rfl ?_
  refine AWPD.region tabOK rfl ?_
  refine hK4 _ _ ?_
  clear hK4
  refine AWPD.block ?_
  -- LOOP 0 live [0, 1, 5, 6] changed [5, 6]
  refine AWPD.nilRow 5 4 .bool rfl (by decide) ?_
  refine AWPD.loopK (σ := Nat) [0, 1] (fun i base => (5, .ob 0) :: (6, .i (i : Int)) :: base) (fun i => [.row 4 .bool (moreL L a.toNat i)]) (fun n i => n + i = L.length) (L.length) 0 [0] rfl rfl (by omega) (by decide) ⟨⟨rfl, rfl, rfl⟩, trivial⟩ (by repeat' first | exact True.intro | exact rfl | exact ⟨rfl, rfl⟩ | refine And.intro ?_ ?_) fun n0 i hI0 => ?_
  have hn0 := hI0
  have hml := moreL_len L a.toNat i
  refine AWPD.seq fun K5 hK5 => ?_
  refine AWPD.seq fun K6 hK6 => ?_
  -- region 3
  refine AWPD.keep [0, 1, 5, 6] rfl ?_
  refine AWPD.region tabOK rfl ?_
  refine hK6 _ _ ?_
  clear hK6
  first | refine AWPD.condP rfl (fun h0 => ?_) (fun h0 => ?_) | refine AWPD.condN rfl (fun h0 => ?_) (fun h0 => ?_) | refine AWPD.condAP rfl (fun h0 => ?_) (fun h0 => ?_) | refine AWPD.condOP rfl (fun h0 => ?_) (fun h0 => ?_) | refine AWPD.condONN rfl (fun h0 => ?_) (fun h0 => ?_) | refine AWPD.condOPN rfl (fun h0 => ?_) (fun h0 => ?_) | refine AWPD.condA rfl (fun h0 => ?_) (fun h0 => ?_) | refine AWPD.condO rfl (fun h0 => ?_) (fun h0 => ?_) | refine AWPD.cond rfl (fun h0 => ?_) (fun h0 => ?_)
  · try dsimp only [Ty.T] at h0
    try simp only [castL_self] at h0
    try simp only [Int.toNat_natCast] at h0
    try simp only [Int.toNat_zero] at h0
    have hil : i < L.length := by omega
    have hxl : i ^^^ a.toNat < 2 ^ k := Nat.xor_lt_two_pow (by omega) ha.2
    refine AWPD.skip ?_
    refine hK5 _ _ ?_
    clear hK5
    refine AWPD.seq fun K7 hK7 => ?_
    refine AWPD.block ?_
    -- region 5
    refine AWPD.keep [0, 1, 5, 6] rfl ?_
    refine AWPD.region tabOK rfl ?_
    repeat refine And.intro (by first | (intro hg; show 0 ≤ (((i : Int).toNat ^^^ a.toNat : Nat) : Int) ∧ (((i : Int).toNat ^^^ a.toNat : Nat) : Int) < (L.length : Int); rw [Int.toNat_natCast]; omega) | exact fun h => h | exact fun _ => rfl | (intro h; rw [h]; rfl) | omega | (intros; (try dsimp only [Ty.T, Ty.size]); (try simp only [castL_self, Int.toNat_natCast, Int.toNat_zero, Int.toNat_one, true_and, List.length_append, List.length_set, List.length_drop, List.length_take, List.length_replicate, List.length_cons, List.length_nil, Nat.zero_add, Nat.mul_one]); omega) | decide | (intros; simp_all; done) | (intros; simp_all; omega)) ?_
    refine Exists.intro _ (Exists.intro _ (And.intro (fun hg => StepD.call (sum4_fn (i : Int) a (by omega) (by omega)) rfl rfl rfl) (And.intro (fun hf => rfl) (And.intro rfl (And.intro trivial ?_)))))
    repeat refine And.intro (by first | (intro hg; show 0 ≤ (((i : Int).toNat ^^^ a.toNat : Nat) : Int) ∧ (((i : Int).toNat ^^^ a.toNat : Nat) : Int) < (L.length : Int); rw [Int.toNat_natCast]; omega) | exact fun h => h | exact fun _ => rfl | (intro h; rw [h]; rfl) | omega | (intros; (try dsimp only [Ty.T, Ty.size]); (try simp only [castL_self, Int.toNat_natCast, Int.toNat_zero, Int.toNat_one, true_and, List.length_append, List.length_set, List.length_drop, List.length_take, List.length_replicate, List.length_cons, List.length_nil, Nat.zero_add, Nat.mul_one]); omega) | decide | (intros; simp_all; done) | (intros; simp_all; omega)) ?_
    refine hK7 _ _ ?_
    clear hK7
    -- region 4
    refine AWPD.keep [0, 1, 5, 6] rfl ?_
    refine AWPD.region tabOK rfl ?_
    repeat refine And.intro (by first | (intro hg; show 0 ≤ (((i : Int).toNat ^^^ a.toNat : Nat) : Int) ∧ (((i : Int).toNat ^^^ a.toNat : Nat) : Int) < (L.length : Int); rw [Int.toNat_natCast]; omega) | exact fun h => h | exact fun _ => rfl | (intro h; rw [h]; rfl) | omega | (intros; (try dsimp only [Ty.T, Ty.size]); (try simp only [castL_self, Int.toNat_natCast, Int.toNat_zero, Int.toNat_one, true_and, List.length_append, List.length_set, List.length_drop, List.length_take, List.length_replicate, List.length_cons, List.length_nil, Nat.zero_add, Nat.mul_one]); omega) | decide | (intros; simp_all; done) | (intros; simp_all; omega)) ?_
    refine ⟨n0 - 1, i + 1, [1], by omega, by omega, ⟨by decide, rfl⟩, ⟨⟨rfl, rfl, (by rw [← moreL_app]; show moreL L a.toNat i ++ [(bif L.getD i false then true else L.getD (i ^^^ a.toNat) false)] = _; cases L.getD i false <;> rfl)⟩, trivial⟩, ?_⟩
    repeat' first | exact True.intro | exact rfl | exact ⟨rfl, rfl⟩ | refine And.intro ?_ ?_
  · try dsimp only [Ty.T] at h0
    try simp only [castL_self] at h0
    try simp only [Int.toNat_natCast] at h0
    try simp only [Int.toNat_zero] at h0
    have hil : i = L.length := by omega
    refine AWPD.exit ?_
    refine hK3 _ _ ?_
    clear hK3
    refine AWPD.seq fun K8 hK8 => ?_
    -- region 6
    refine AWPD.keep [5] rfl ?_
    refine AWPD.region tabOK rfl ?_
    refine hK8 _ _ ?_
    clear hK8
    refine AWPD.ret (And.intro (.inl rfl) ?_)
    -- result 0
    exact ⟨_, 0, rfl, rfl, by rw [hil]; rfl, row_free _ _ _⟩
theorem sums_fn (z : Int) (asks : List Int) (g : GoodK z asks) : LiftsD Tryd.prog 15 [.i z, .sl .int asks] (.tup [.sl .bool (sumL (2 ^ z.toNat) (ofV asks).1), .i ((ofV asks).2 : Int)]) := by
  have gz := g.n0
  have gl := g.len
  have hpp := pow12 (n := z.toNat) (by omega)
  have hpz : powN z.toNat = 2 ^ z.toNat := rfl
  have hpos : 0 < 2 ^ z.toNat := Nat.two_pow_pos _
  refine LiftsD.of_body 38 [.tmp 4, .tmp 5] Tryd.func15 rfl Tryd.ntmps15 (by kernel_rfl) rfl rfl fun w0 X0 => ?_
  refine AWPD.seq fun K1 hK1 => ?_
  -- region 0
  refine AWPD.keep [0, 1] rfl ?_
  refine AWPD.region tabOK rfl ?_
  refine hK1 _ _ ?_
  clear hK1
  refine AWPD.seq fun K2 hK2 => ?_
  -- region 1
  refine AWPD.keep [0, 1] rfl ?_
  refine AWPD.region tabOK rfl ?_
  refine Exists.intro _ (Exists.intro _ (And.intro (StepD.call (pow2_fn _ (by omega)) rfl rfl rfl) (And.intro rfl (And.intro trivial ?_))))
  repeat refine And.intro (by first | exact fun h => h | exact fun _ => rfl | (intro h; rw [h]; rfl) | omega | (intros; (try dsimp only [Ty.T, Ty.size]); (try simp only [castL_self, Int.toNat_natCast, Int.toNat_zero, Int.toNat_one, true_and, List.length_append, List.length_set, List.length_drop, List.length_take, List.length_replicate, List.length_cons, List.length_nil, Nat.zero_add, Nat.mul_one]); omega) | decide | (intros; simp_all; done) | (intros; simp_all; omega)) ?_
  refine hK2 _ _ ?_
  clear hK2
  refine AWPD.seq fun K3 hK3 => ?_
  -- region 2
  refine AWPD.keep [1, 6] rfl ?_
  refine AWPD.region tabOK rfl ?_
  repeat refine And.intro (by first | exact fun h => h | exact fun _ => rfl | (intro h; rw [h]; rfl) | omega | (intros; (try dsimp only [Ty.T, Ty.size]); (try simp only [castL_self, Int.toNat_natCast, Int.toNat_zero, Int.toNat_one, true_and, List.length_append, List.length_set, List.length_drop, List.length_take, List.length_replicate, List.length_cons, List.length_nil, Nat.zero_add, Nat.mul_one]); omega) | decide | (intros; simp_all; done) | (intros; simp_all; omega)) ?_
  refine hK3 _ _ ?_
  clear hK3
  refine AWPD.seq fun K4 hK4 => ?_
  -- region 3
  refine AWPD.keep [1, 6] rfl ?_
  refine AWPD.region tabOK rfl ?_
  refine hK4 _ _ ?_
  clear hK4
  refine AWPD.seq fun K5 hK5 => ?_
  refine AWPD.seq fun K6 hK6 => ?_
  -- region 4
  refine AWPD.keep [1, 6, 7] rfl ?_
  refine AWPD.region tabOK rfl ?_
  refine hK6 _ _ ?_
  clear hK6
  refine AWPD.block ?_
  -- LOOP 0 live [1, 6, 7, 8] changed [6, 7, 8]
  refine AWPD.loopK (σ := Nat) [1] (fun i base => (6, .ob 0) :: (7, .i ((ofS asks i).2 : Int)) :: (8, .i (i : Int)) :: base) (fun i => [.row 4 .bool (sumL (2 ^ z.toNat) (ofS asks i).1)]) (fun n i => n + i = asks.length) (asks.length) 0 [0] rfl rfl (by omega) (by decide) ⟨⟨rfl, rfl, (by show (List.replicate (((powN z.toNat : Nat) : Int)).toNat false).set 0 true = _; rw [Int.toNat_natCast]; exact sum_none)⟩, trivial⟩ (by repeat' first | exact True.intro | exact rfl | exact ⟨rfl, rfl⟩ | refine And.intro ?_ ?_) fun n0 i hI0 => ?_
  have hn0 := hI0
  have hsl := sumL_len (2 ^ z.toNat) (ofS asks i).1
  refine AWPD.seq fun K7 hK7 => ?_
  refine AWPD.seq fun K8 hK8 => ?_
  -- region 5
  refine AWPD.keep [1, 6, 7, 8] rfl ?_
  refine AWPD.region tabOK rfl ?_
  refine hK8 _ _ ?_
  clear hK8
  first | refine AWPD.condP rfl (fun h0 => ?_) (fun h0 => ?_) | refine AWPD.condN rfl (fun h0 => ?_) (fun h0 => ?_) | refine AWPD.condAP rfl (fun h0 => ?_) (fun h0 => ?_) | refine AWPD.condOP rfl (fun h0 => ?_) (fun h0 => ?_) | refine AWPD.condONN rfl (fun h0 => ?_) (fun h0 => ?_) | refine AWPD.condOPN rfl (fun h0 => ?_) (fun h0 => ?_) | refine AWPD.condA rfl (fun h0 => ?_) (fun h0 => ?_) | refine AWPD.condO rfl (fun h0 => ?_) (fun h0 => ?_) | refine AWPD.cond rfl (fun h0 => ?_) (fun h0 => ?_)
  · try dsimp only [Ty.T] at h0
    try simp only [castL_self] at h0
    try simp only [Int.toNat_natCast] at h0
    try simp only [Int.toNat_zero] at h0
    have hil : i < asks.length := by omega
    have hai := g.all i hil
    have hb := g.a.bas i (by omega)
    have hrk := ofS_le asks i
    have hsg := sumL_get (B := (ofS asks i).1) hai.2
    refine AWPD.skip ?_
    refine hK7 _ _ ?_
    clear hK7
    refine AWPD.seq fun K9 hK9 => ?_
    refine AWPD.block ?_
    refine AWPD.seq fun K10 hK10 => ?_
    -- region 7
    refine AWPD.keep [1, 6, 7, 8] rfl ?_
    refine AWPD.region tabOK rfl ?_
    repeat refine And.intro (by first | exact fun h => h | exact fun _ => rfl | (intro h; rw [h]; rfl) | omega | (intros; (try dsimp only [Ty.T, Ty.size]); (try simp only [castL_self, Int.toNat_natCast, Int.toNat_zero, Int.toNat_one, true_and, List.length_append, List.length_set, List.length_drop, List.length_take, List.length_replicate, List.length_cons, List.length_nil, Nat.zero_add, Nat.mul_one]); omega) | decide | (intros; simp_all; done) | (intros; simp_all; omega)) ?_
    refine hK10 _ _ ?_
    clear hK10
    first | refine AWPD.cond rfl (fun h1 => ?_) (fun h1 => ?_)
    · try dsimp only [Ty.T] at h1
      try simp only [castL_self] at h1
      try simp only [Int.toNat_natCast] at h1
      try simp only [Int.toNat_zero] at h1
      have hc0 : cutV (ofS asks i).1 (asks.getD i 0).toNat ≠ 0 := by
        rw [hsg] at h1
        simpa using h1
      have hrow : moreL (sumL (2 ^ z.toNat) (ofS asks i).1) (asks.getD i 0).toNat (sumL (2 ^ z.toNat) (ofS asks i).1).length = sumL (2 ^ z.toNat) (ofS asks (i + 1)).1 := by
        rw [sumL_len]; exact hb.more_sum g.a.1 hai.2
      refine AWPD.seq fun K11 hK11 => ?_
      -- region 8
      refine AWPD.keep [1, 6, 7, 8] rfl ?_
      refine AWPD.region tabOK rfl ?_
      repeat refine And.intro (by first | exact fun h => h | exact fun _ => rfl | (intro h; rw [h]; rfl) | omega | (intros; (try dsimp only [Ty.T, Ty.size]); (try simp only [castL_self, Int.toNat_natCast, Int.toNat_zero, Int.toNat_one, true_and, List.length_append, List.length_set, List.length_drop, List.length_take, List.length_replicate, List.length_cons, List.length_nil, Nat.zero_add, Nat.mul_one]); omega) | decide | (intros; simp_all; done) | (intros; simp_all; omega)) ?_
      refine hK11 _ _ ?_
      clear hK11
      -- region 9
      refine AWPD.freeze 6 rfl rfl rfl ?_
      refine AWPD.keep [1, 6, 7, 8] rfl ?_
      refine AWPD.region tabOK rfl ?_
      repeat refine And.intro (by first | exact fun h => h | exact fun _ => rfl | (intro h; rw [h]; rfl) | omega | (intros; (try dsimp only [Ty.T, Ty.size]); (try simp only [castL_self, Int.toNat_natCast, Int.toNat_zero, Int.toNat_one, true_and, List.length_append, List.length_set, List.length_drop, List.length_take, List.length_replicate, List.length_cons, List.length_nil, Nat.zero_add, Nat.mul_one]); omega) | decide | (intros; simp_all; done) | (intros; simp_all; omega)) ?_
      refine Exists.intro _ (Exists.intro _ (And.intro (StepD.callN (more_fn z.toNat _ (asks.getD i 0) g.a.1 (sumL_len _ _) hai) rfl rfl (by first | exact rfl | exact row_free _ _ _)) (And.intro rfl (And.intro trivial ?_))))
      refine hK9 _ _ ?_
      clear hK9
      -- region 6
      refine AWPD.keep [1, 6, 7, 8] rfl ?_
      refine AWPD.region tabOK rfl ?_
      repeat refine And.intro (by first | exact fun h => h | exact fun _ => rfl | (intro h; rw [h]; rfl) | omega | (intros; (try dsimp only [Ty.T, Ty.size]); (try simp only [castL_self, Int.toNat_natCast, Int.toNat_zero, Int.toNat_one, true_and, List.length_append, List.length_set, List.length_drop, List.length_take, List.length_replicate, List.length_cons, List.length_nil, Nat.zero_add, Nat.mul_one]); omega) | decide | (intros; simp_all; done) | (intros; simp_all; omega)) ?_
      refine ⟨n0 - 1, i + 1, [1], by omega, by omega, ⟨by decide, rfl⟩, ⟨⟨rfl, rfl, hrow⟩, trivial⟩, ?_⟩
      repeat' first | (show (((ofS asks i).2 : Nat) : Int) + 1 = _; rw [ofS_yes hc0]; rfl) | (show (((ofS asks i).2 : Nat) : Int) = _; rw [ofS_no hc0]) | exact True.intro | exact rfl | exact ⟨rfl, rfl⟩ | refine And.intro ?_ ?_
    · try dsimp only [Ty.T] at h1
      try simp only [castL_self] at h1
      try simp only [Int.toNat_natCast] at h1
      try simp only [Int.toNat_zero] at h1
      have hc0 : cutV (ofS asks i).1 (asks.getD i 0).toNat = 0 := by
        rw [hsg] at h1
        simpa using h1
      refine AWPD.skip ?_
      refine hK9 _ _ ?_
      clear hK9
      -- region 6
      refine AWPD.keep [1, 6, 7, 8] rfl ?_
      refine AWPD.region tabOK rfl ?_
      repeat refine And.intro (by first | exact fun h => h | exact fun _ => rfl | (intro h; rw [h]; rfl) | omega | (intros; (try dsimp only [Ty.T, Ty.size]); (try simp only [castL_self, Int.toNat_natCast, Int.toNat_zero, Int.toNat_one, true_and, List.length_append, List.length_set, List.length_drop, List.length_take, List.length_replicate, List.length_cons, List.length_nil, Nat.zero_add, Nat.mul_one]); omega) | decide | (intros; simp_all; done) | (intros; simp_all; omega)) ?_
      refine ⟨n0 - 1, i + 1, [0], by omega, by omega, ⟨by decide, rfl⟩, ⟨⟨rfl, rfl, congrArg (fun p : (Nat → Nat) × Nat => sumL (2 ^ z.toNat) p.1) (ofS_no hc0).symm⟩, trivial⟩, ?_⟩
      repeat' first | (show (((ofS asks i).2 : Nat) : Int) + 1 = _; rw [ofS_yes hc0]; rfl) | (show (((ofS asks i).2 : Nat) : Int) = _; rw [ofS_no hc0]) | exact True.intro | exact rfl | exact ⟨rfl, rfl⟩ | refine And.intro ?_ ?_
  · try dsimp only [Ty.T] at h0
    try simp only [castL_self] at h0
    try simp only [Int.toNat_natCast] at h0
    try simp only [Int.toNat_zero] at h0
    have hil : i = asks.length := by omega
    refine AWPD.exit ?_
    refine hK5 _ _ ?_
    clear hK5
    refine AWPD.seq fun K12 hK12 => ?_
    -- region 10
    refine AWPD.keep [6, 7] rfl ?_
    refine AWPD.region tabOK rfl ?_
    refine hK12 _ _ ?_
    clear hK12
    refine AWPD.ret (And.intro (.inl rfl) ?_)
    -- result 0
    have e : ofV asks = ofS asks i := by unfold ofV; rw [hil]
    rw [e]
    exact ⟨fitR rfl rfl rfl, fitI rfl rfl⟩
theorem twin4_fn (z : Int) (asks : List Int) (bits s : Int) (g : GoodK z asks) (hb : 0 ≤ bits ∧ bits ≤ 4095) (hs : 0 ≤ s ∧ s ≤ 4095) : LiftsD Tryd.prog 18 [.i z, .sl .int asks, .i bits, .i s] (.i (twinK z asks bits s)) := by
  have gz := g.n0
  have gl := g.len
  have hpp := pow12 (n := z.toNat) (by omega)
  have hpz : powN z.toNat = 2 ^ z.toNat := rfl
  refine LiftsD.of_body 49 [.tmp 8] Tryd.func18 rfl Tryd.ntmps18 (by kernel_rfl) rfl rfl fun w0 X0 => ?_
  refine AWPD.seq fun K1 hK1 => ?_
  -- region 0
  refine AWPD.keep [0, 1, 2, 3] rfl ?_
  refine AWPD.region tabOK rfl ?_
  refine hK1 _ _ ?_
  clear hK1
  refine AWPD.seq fun K2 hK2 => ?_
  refine AWPD.seq fun K3 hK3 => ?_
  -- region 1
  refine AWPD.keep [0, 1, 2, 3] rfl ?_
  refine AWPD.region tabOK rfl ?_
  refine hK3 _ _ ?_
  clear hK3
  refine AWPD.block ?_
  -- LOOP 0 live [0, 1, 2, 3, 9] changed [9]
  refine AWPD.loopK (σ := Nat) [0, 1, 2, 3] (fun x base => (9, .i (x : Int)) :: base) (fun _ => []) (fun n x => n + x = 2 ^ z.toNat ∧ firstN (twOK asks bits s) x = none) (2 ^ z.toNat) 0 [] rfl rfl (⟨by omega, rfl⟩) (by decide) trivial (by repeat' first | exact True.intro | exact rfl | exact ⟨rfl, rfl⟩ | refine And.intro ?_ ?_) fun n0 x hI0 => ?_
  obtain ⟨hn0, hv0⟩ := hI0
  refine AWPD.seq fun K4 hK4 => ?_
  refine AWPD.seq fun K5 hK5 => ?_
  -- region 2
  refine AWPD.keep [0, 1, 2, 3, 9] rfl ?_
  refine AWPD.region tabOK rfl ?_
  refine Exists.intro _ (Exists.intro _ (And.intro (StepD.call (pow2_fn _ (by omega)) rfl rfl rfl) (And.intro rfl (And.intro trivial ?_))))
  refine hK5 _ _ ?_
  clear hK5
  first | refine AWPD.condP rfl (fun h0 => ?_) (fun h0 => ?_) | refine AWPD.condN rfl (fun h0 => ?_) (fun h0 => ?_) | refine AWPD.condAP rfl (fun h0 => ?_) (fun h0 => ?_) | refine AWPD.condOP rfl (fun h0 => ?_) (fun h0 => ?_) | refine AWPD.condONN rfl (fun h0 => ?_) (fun h0 => ?_) | refine AWPD.condOPN rfl (fun h0 => ?_) (fun h0 => ?_) | refine AWPD.condA rfl (fun h0 => ?_) (fun h0 => ?_) | refine AWPD.condO rfl (fun h0 => ?_) (fun h0 => ?_) | refine AWPD.cond rfl (fun h0 => ?_) (fun h0 => ?_)
  · try dsimp only [Ty.T] at h0
    try simp only [castL_self] at h0
    try simp only [Int.toNat_natCast] at h0
    try simp only [Int.toNat_zero] at h0
    have hxl : x < 2 ^ z.toNat := by omega
    refine AWPD.skip ?_
    refine hK4 _ _ ?_
    clear hK4
    refine AWPD.seq fun K6 hK6 => ?_
    refine AWPD.block ?_
    refine AWPD.seq fun K7 hK7 => ?_
    -- region 4
    refine AWPD.keep [0, 1, 2, 3, 9] rfl ?_
    refine AWPD.region tabOK rfl ?_
    refine Exists.intro _ (Exists.intro _ (And.intro (StepD.call (odd_fn _ _ (by omega) (by omega)) rfl rfl rfl) (And.intro rfl (And.intro trivial ?_))))
    refine Exists.intro _ (Exists.intro _ (And.intro (StepD.call (odd_fn _ _ (by omega) (by omega)) rfl rfl rfl) (And.intro rfl (And.intro trivial ?_))))
    refine hK7 _ _ ?_
    clear hK7
    refine AWPD.seq fun K8 hK8 => ?_
    refine AWPD.seq fun K9 hK9 => ?_
    -- region 5
    refine AWPD.keep [0, 1, 2, 3, 9, 10] rfl ?_
    refine AWPD.region tabOK rfl ?_
    refine hK9 _ _ ?_
    clear hK9
    refine AWPD.block ?_
    -- LOOP 1 live [0, 1, 2, 3, 9, 10, 11] changed [10, 11]
    refine AWPD.loopK (σ := Nat) [0, 1, 2, 3, 9] (fun i base => (10, .b (okB asks bits s x i)) :: (11, .i (i : Int)) :: base) (fun _ => []) (fun n i => n + i = asks.length) (asks.length) 0 [] rfl rfl (by omega) (by decide) trivial (by repeat' first | exact odd_diff | exact True.intro | exact rfl | exact ⟨rfl, rfl⟩ | refine And.intro ?_ ?_) fun n1 i hI1 => ?_
    have hn1 := hI1
    refine AWPD.seq fun K10 hK10 => ?_
    refine AWPD.seq fun K11 hK11 => ?_
    -- region 6
    refine AWPD.keep [0, 1, 2, 3, 9, 10, 11] rfl ?_
    refine AWPD.region tabOK rfl ?_
    repeat refine And.intro (by first | exact fun h => h | exact fun _ => rfl | (intro h; rw [h]; rfl) | omega | (intros; (try dsimp only [Ty.T, Ty.size]); (try simp only [castL_self, Int.toNat_natCast, Int.toNat_zero, Int.toNat_one, true_and, List.length_append, List.length_set, List.length_drop, List.length_take, List.length_replicate, List.length_cons, List.length_nil, Nat.zero_add, Nat.mul_one]); omega) | decide | (intros; simp_all; done) | (intros; simp_all; omega)) ?_
    refine hK11 _ _ ?_
    clear hK11
    first | refine AWPD.cond rfl (fun h1 => ?_) (fun h1 => ?_)
    · try dsimp only [Ty.T] at h1
      try simp only [castL_self] at h1
      try simp only [Int.toNat_natCast] at h1
      try simp only [Int.toNat_zero] at h1
      have h1 : i < asks.length ∧ okB asks bits s x i = true := by
        have := h1
        simp at this
        exact this
      have hai := g.small h1.1
      refine AWPD.skip ?_
      refine hK10 _ _ ?_
      clear hK10
      refine AWPD.seq fun K12 hK12 => ?_
      refine AWPD.block ?_
      -- region 8
      refine AWPD.keep [0, 1, 2, 3, 9, 11] rfl ?_
      refine AWPD.draw tabOK [] rfl (by kernel_rfl) ?_
      repeat refine And.intro (by first | exact fun h => h | exact fun _ => rfl | (intro h; rw [h]; rfl) | omega | (intros; (try dsimp only [Ty.T, Ty.size]); (try simp only [castL_self, Int.toNat_natCast, Int.toNat_zero, Int.toNat_one, true_and, List.length_append, List.length_set, List.length_drop, List.length_take, List.length_replicate, List.length_cons, List.length_nil, Nat.zero_add, Nat.mul_one]); omega) | decide | (intros; simp_all; done) | (intros; simp_all; omega)) ?_
      refine Exists.intro _ (Exists.intro _ (And.intro (StepD.call (odd_fn (x : Int) (asks.getD i 0) (by omega) (by omega)) rfl rfl rfl) (And.intro rfl (And.intro rfl ?_))))
      repeat refine And.intro (by first | exact fun h => h | exact fun _ => rfl | (intro h; rw [h]; rfl) | omega | (intros; (try dsimp only [Ty.T, Ty.size]); (try simp only [castL_self, Int.toNat_natCast, Int.toNat_zero, Int.toNat_one, true_and, List.length_append, List.length_set, List.length_drop, List.length_take, List.length_replicate, List.length_cons, List.length_nil, Nat.zero_add, Nat.mul_one]); omega) | decide | (intros; simp_all; done) | (intros; simp_all; omega)) ?_
      refine Exists.intro _ (Exists.intro _ (And.intro (StepD.call (odd_fn bits (asks.getD i 0) (by omega) (by omega)) rfl rfl rfl) (And.intro rfl (And.intro rfl ?_))))
      refine hK12 _ _ ?_
      clear hK12
      -- region 7
      refine AWPD.keep [0, 1, 2, 3, 9, 10, 11] rfl ?_
      refine AWPD.region tabOK rfl ?_
      repeat refine And.intro (by first | exact fun h => h | exact fun _ => rfl | (intro h; rw [h]; rfl) | omega | (intros; (try dsimp only [Ty.T, Ty.size]); (try simp only [castL_self, Int.toNat_natCast, Int.toNat_zero, Int.toNat_one, true_and, List.length_append, List.length_set, List.length_drop, List.length_take, List.length_replicate, List.length_cons, List.length_nil, Nat.zero_add, Nat.mul_one]); omega) | decide | (intros; simp_all; done) | (intros; simp_all; omega)) ?_
      refine ⟨n1 - 1, i + 1, [], by omega, by omega, ⟨by decide, rfl⟩, trivial, ?_⟩
      repeat' first | (show decide _ = okB asks bits s x (i + 1); rw [okB, h1.2, Bool.true_and]; exact odd_same) | exact True.intro | exact rfl | exact ⟨rfl, rfl⟩ | refine And.intro ?_ ?_
    · try dsimp only [Ty.T] at h1
      try simp only [castL_self] at h1
      try simp only [Int.toNat_natCast] at h1
      try simp only [Int.toNat_zero] at h1
      have hok := okB_tw (asks := asks) (bits := bits) (s := s) (x := x) (i := i) (by omega) (by
        by_cases hh : i < asks.length
        · refine .inr ?_
          rw [decide_eq_true (by omega)] at h1
          exact h1
        · exact .inl (by omega))
      refine AWPD.exit ?_
      refine hK8 _ _ ?_
      clear hK8
      refine AWPD.seq fun K13 hK13 => ?_
      -- region 9
      refine AWPD.keep [0, 1, 2, 3, 9, 10] rfl ?_
      refine AWPD.region tabOK rfl ?_
      refine hK13 _ _ ?_
      clear hK13
      first | refine AWPD.cond rfl (fun h2 => ?_) (fun h2 => ?_)
      · try dsimp only [Ty.T] at h2
        try simp only [castL_self] at h2
        try simp only [Int.toNat_natCast] at h2
        try simp only [Int.toNat_zero] at h2
        have hyes : twOK asks bits s x = true := by rw [← hok]; exact h2
        refine AWPD.seq fun K14 hK14 => ?_
        -- region 10
        refine AWPD.keep [9] rfl ?_
        refine AWPD.region tabOK rfl ?_
        refine hK14 _ _ ?_
        clear hK14
        refine AWPD.ret (And.intro (.inl rfl) ?_)
        -- result 0
        refine RetD.one ?_
        have ho : twinO z asks bits s = some x := first_at hv0 hyes hxl
        exact fitI rfl (by unfold twinK; rw [ho])
      · try dsimp only [Ty.T] at h2
        try simp only [castL_self] at h2
        try simp only [Int.toNat_natCast] at h2
        try simp only [Int.toNat_zero] at h2
        have hno : ¬twOK asks bits s x = true := by rw [← hok, h2]; decide
        refine AWPD.skip ?_
        refine hK6 _ _ ?_
        clear hK6
        -- region 3
        refine AWPD.keep [0, 1, 2, 3, 9] rfl ?_
        refine AWPD.region tabOK rfl ?_
        repeat refine And.intro (by first | exact fun h => h | exact fun _ => rfl | (intro h; rw [h]; rfl) | omega | (intros; (try dsimp only [Ty.T, Ty.size]); (try simp only [castL_self, Int.toNat_natCast, Int.toNat_zero, Int.toNat_one, true_and, List.length_append, List.length_set, List.length_drop, List.length_take, List.length_replicate, List.length_cons, List.length_nil, Nat.zero_add, Nat.mul_one]); omega) | decide | (intros; simp_all; done) | (intros; simp_all; omega)) ?_
        refine ⟨n0 - 1, x + 1, [], by omega, ⟨by omega, first_next hv0 hno⟩, ⟨by decide, rfl⟩, trivial, ?_⟩
        repeat' first | exact True.intro | exact rfl | exact ⟨rfl, rfl⟩ | refine And.intro ?_ ?_
  · try dsimp only [Ty.T] at h0
    try simp only [castL_self] at h0
    try simp only [Int.toNat_natCast] at h0
    try simp only [Int.toNat_zero] at h0
    have hxl : x = 2 ^ z.toNat := by omega
    refine AWPD.exit ?_
    refine hK2 _ _ ?_
    clear hK2
    refine AWPD.seq fun K15 hK15 => ?_
    -- region 11
    refine AWPD.keep [] rfl ?_
    refine AWPD.region tabOK rfl ?_
    refine hK15 _ _ ?_
    clear hK15
    refine AWPD.ret (And.intro (.inl rfl) ?_)
    -- result 1
    refine RetD.one ?_
    have ho : twinO z asks bits s = none := by unfold twinO; rw [← hxl]; exact hv0
    exact fitI rfl (by unfold twinK; rw [ho])
end Go.Proofs.YtmeacgkhabnjlaaDoor
