/-
  THE TABLE OF THE DOCUMENT, as it is laid and turned: the plain law; walks of the state beside and of the table.
-/
import Derived.Test.YtndoigkmdcgjfaaDoorQwLf
import Derived.Test.YtndoigkmdcgjfaaDoorQwMy
import Derived.Test.YtndoigkmdcgjfaaDoorQwR3
namespace Go.Proofs.YtndoigkmdcgjfaaDoor
open Go Go.Qw
set_option maxRecDepth 10000
set_option linter.unusedSimpArgs false
set_option linter.unusedVariables false
set_option linter.unusedSectionVars false
set_option maxHeartbeats 2000000

/-! ### The table, as it is laid and turned -/

def rowI (T : Nat → Nat → Int) (i j : Nat) : List Int := (List.range j).map fun b => T i b
theorem rowI_len (T : Nat → Nat → Int) (i j : Nat) : (rowI T i j).length = j := by simp [rowI]
theorem rowI_snoc {T : Nat → Nat → Int} {i j : Nat} {v : Int} (h : v = T i j) : rowI T i j ++ [v] = rowI T i (j + 1) := by rw [h]; simp [rowI, List.range_succ]
theorem rowI_get {T : Nat → Nat → Int} {i j m : Nat} (h : j < m) : (rowI T i m).getD j 0 = T i j := by simp [rowI, List.getD, h]
def tabI (n : Nat) (T : Nat → Nat → Int) (i : Nat) : List (List Int) := (List.range i).map fun a => rowI T a n
theorem tabI_len (n : Nat) (T : Nat → Nat → Int) (i : Nat) : (tabI n T i).length = i := by simp [tabI]
theorem tabI_get {n : Nat} {T : Nat → Nat → Int} {i m : Nat} (h : i < m) : (tabI n T m).getD i [] = rowI T i n := by simp [tabI, List.getD, h]
theorem tabI_at {n : Nat} {T : Nat → Nat → Int} {i j m : Nat} (h : i < m) (hj : j < n) : ((tabI n T m).getD i []).getD j 0 = T i j := by rw [tabI_get h, rowI_get hj]
theorem tabI_row {n : Nat} {T : Nat → Nat → Int} {i m : Nat} (h : i < m) : ((tabI n T m).getD i []).length = n := by rw [tabI_get h, rowI_len]
theorem tabI_congr {n : Nat} {T T' : Nat → Nat → Int} (e : ∀ a b, a < n → b < n → T a b = T' a b) : tabI n T n = tabI n T' n := by
  unfold tabI rowI
  exact List.map_congr_left fun a ha => List.map_congr_left fun b hb => e a b (List.mem_range.1 ha) (List.mem_range.1 hb)
def osI (n : Nat) (T : Nat → Nat → Int) (i : Nat) : List OD := (tabI n T i).map fun r => OD.row 3 .int r
theorem osI_len (n : Nat) (T : Nat → Nat → Int) (i : Nat) : (osI n T i).length = i := by simp [osI, tabI_len]
theorem osI_get {n : Nat} {T : Nat → Nat → Int} {i m : Nat} (h : i < m) : (osI n T m)[i]? = some (.row 3 .int (rowI T i n)) := by
  unfold osI
  rw [List.getElem?_map]
  have : (tabI n T m)[i]? = some (rowI T i n) := by simp [tabI, h]
  rw [this]; rfl
theorem osI_dead (n : Nat) (T : Nat → Nat → Int) (i : Nat) : (osI n T i ++ [OD.dead])[i]? = some OD.dead := by
  rw [List.getElem?_append_right (by rw [osI_len]; omega), osI_len, Nat.sub_self]; rfl
theorem osI_next {n : Nat} {T : Nat → Nat → Int} {i : Nat} : (osI n T i ++ [OD.dead]).set i (.row 3 .int (rowI T i n)) = osI n T (i + 1) := by
  have h := set_last (osI n T i) (.dead : OD) (.row 3 .int (rowI T i n))
  rw [osI_len] at h
  rw [h]
  simp [osI, tabI, List.range_succ]
theorem osI_upd {n : Nat} {T : Nat → Nat → Int} {s u : Nat} {v : Int} (hs : s < n) (hu : u < n) : (osI n T n).set s (.row 3 .int ((rowI T s n).set u v)) = osI n (updT T s u v) n := by
  apply List.ext_getElem?
  intro a
  rw [List.getElem?_set]
  by_cases ha : a < n
  · rw [osI_get (T := updT T s u v) ha, osI_get (T := T) ha]
    by_cases hsa : s = a
    · subst hsa
      rw [if_pos rfl, if_pos (by rw [osI_len]; exact hs)]
      congr 2
      apply List.ext_getElem?
      intro b
      rw [List.getElem?_set]
      by_cases hb : b < n
      · have e : ∀ T : Nat → Nat → Int, (rowI T s n)[b]? = some (T s b) := fun T => by simp [rowI, hb]
        rw [e, e]
        by_cases hub : u = b
        · subst hub; rw [if_pos rfl, if_pos (by rw [rowI_len]; exact hu), updT_self]
        · rw [if_neg hub, updT_other T v fun h => hub h.2.symm]
      · have e : ∀ T : Nat → Nat → Int, (rowI T s n)[b]? = none := fun T => List.getElem?_eq_none (by rw [rowI_len]; omega)
        rw [e, e, if_neg (by omega)]
    · rw [if_neg hsa]
      congr 2
      unfold rowI
      exact List.map_congr_left fun b _ => (updT_other T v fun h => hsa h.1.symm).symm
  · have e : ∀ T : Nat → Nat → Int, (osI n T n)[a]? = none := fun T => List.getElem?_eq_none (by rw [osI_len]; omega)
    rw [e, e, if_neg (by omega)]
structure InvL (n m : Nat) (x y : Nat → Nat → Nat) (bad : Nat → Nat → Bool) (T0 : Nat → Nat → Int) (z : (Nat → Nat → Int) × Bool) (s u a : Nat) : Prop where
  good : GoodL n m x y bad z.1
  low : ∀ s u, s < n → u < n → -1 ≤ z.1 s u
  st : (z.2 = false ∧ z.1 = T0 ∧ ∀ s' u' a', s' < n → u' < n → a' < m → (s' < s ∨ s' = s ∧ (u' < u ∨ u' = u ∧ a' < a)) → closeL x y T0 s' u' a') ∨ (z.2 = true ∧ mesT n z.1 < mesT n T0)
section
variable {n m : Nat} {x y : Nat → Nat → Nat} {bad : Nat → Nat → Bool} {T T0 : Nat → Nat → Int} {z : (Nat → Nat → Int) × Bool} {s u a : Nat}
theorem startT_low (s u : Nat) : -1 ≤ startT bad s u := by unfold startT; split <;> omega
theorem InvL.start (g : GoodL n m x y bad T) (low : ∀ s u, s < n → u < n → -1 ≤ T s u) : InvL n m x y bad T (T, false) 0 0 0 := ⟨g, low, .inl ⟨rfl, rfl, fun s u a h1 h2 h3 h4 => by omega⟩⟩
theorem InvL.go (h : InvL n m x y bad T0 z s u a) {s' u' a' : Nat} (hd : z.1 = T0 → (∀ s' u' a', s' < n → u' < n → a' < m → (s' < s ∨ s' = s ∧ (u' < u ∨ u' = u ∧ a' < a)) → closeL x y T0 s' u' a') → ∀ s1 u1 a1, s1 < n → u1 < n → a1 < m → (s1 < s' ∨ s1 = s' ∧ (u1 < u' ∨ u1 = u' ∧ a1 < a')) → closeL x y T0 s1 u1 a1) : InvL n m x y bad T0 z s' u' a' := by
  refine ⟨h.good, h.low, ?_⟩
  rcases h.st with ⟨e1, e2, e3⟩ | e
  · exact .inl ⟨e1, e2, hd e2 e3⟩
  · exact .inr e
theorem InvL.nextU (h : InvL n m x y bad T0 z s u m) : InvL n m x y bad T0 z s (u + 1) 0 := h.go fun _ hd s1 u1 a1 h1 h2 h3 h4 => hd s1 u1 a1 h1 h2 h3 (by omega)
theorem InvL.nextS (h : InvL n m x y bad T0 z s n 0) : InvL n m x y bad T0 z (s + 1) 0 0 := h.go fun _ hd s1 u1 a1 h1 h2 h3 h4 => hd s1 u1 a1 h1 h2 h3 (by omega)
theorem InvL.no (h : InvL n m x y bad T0 z s u a) (hn : ¬(0 ≤ z.1 (x s a) (y u a) ∧ (z.1 s u < 0 ∨ z.1 (x s a) (y u a) + 1 < z.1 s u))) : InvL n m x y bad T0 z s u (a + 1) := h.go fun e hd s1 u1 a1 h1 h2 h3 h4 => by
  by_cases he : s1 = s ∧ u1 = u ∧ a1 = a
  · obtain ⟨rfl, rfl, rfl⟩ := he
    rw [e] at hn
    intro h0
    omega
  · exact hd s1 u1 a1 h1 h2 h3 (by omega)
theorem InvL.yes (i : InL n m x y) (h : InvL n m x y bad T0 z s u a) (hs : s < n) (hu : u < n) (ha : a < m) (hy : 0 ≤ z.1 (x s a) (y u a) ∧ (z.1 s u < 0 ∨ z.1 (x s a) (y u a) + 1 < z.1 s u)) : InvL n m x y bad T0 (updT z.1 s u (z.1 (x s a) (y u a) + 1), true) s u (a + 1) := by
  have hst := h.good.step i hs hu ha hy.1 hy.2
  refine ⟨hst.1, fun s' u' hs' hu' => ?_, .inr ⟨rfl, ?_⟩⟩
  · by_cases he : s' = s ∧ u' = u
    · obtain ⟨rfl, rfl⟩ := he
      show -1 ≤ updT z.1 s' u' _ s' u'
      rw [updT_self]; omega
    · show -1 ≤ updT z.1 s u _ s' u'
      rw [updT_other _ _ he]; exact h.low s' u' hs' hu'
  · rcases h.st with ⟨_, e2, _⟩ | ⟨_, e2⟩
    · rw [← e2]; exact hst.2
    · exact Nat.lt_trans hst.2 e2
theorem GoodL.congr {T' : Nat → Nat → Int} (g : GoodL n m x y bad T) (e : ∀ s u, s < n → u < n → T' s u = T s u) : GoodL n m x y bad T' := by
  have ec : cntT n T' = cntT n T := sumQ_congr fun s hs => sumQ_congr fun u hu => by
    show (if T' s u < 0 then 0 else 1) = if T s u < 0 then 0 else 1
    rw [e s u hs hu]
  exact ⟨fun s u hs hu h => by rw [e s u hs hu] at h ⊢; exact g.sound s u hs hu h, fun s u hs hu h => by rw [e s u hs hu]; exact g.zero s u hs hu h, fun s u hs hu => by rw [e s u hs hu, ec]; exact g.bnd s u hs hu⟩
/-- There is such a table. -/
theorem left_ex (i : InL n m x y) (bad : Nat → Nat → Bool) : GoodL n m x y bad (leftD m x y bad) ∧ (∀ s u, s < n → u < n → -1 ≤ leftD m x y bad s u) ∧ ∀ s u a, s < n → u < n → a < m → closeL x y (leftD m x y bad) s u a := by
  have key : ∀ k T, mesT n T ≤ k → GoodL n m x y bad T → (∀ s u, s < n → u < n → -1 ≤ T s u) → ∃ T', GoodL n m x y bad T' ∧ (∀ s u, s < n → u < n → -1 ≤ T' s u) ∧ ∀ s u a, s < n → u < n → a < m → closeL x y T' s u a := by
    intro k
    induction k with
    | zero =>
      intro T hk g low
      refine ⟨T, g, low, fun s u a hs hu ha => Classical.byContradiction fun hn => ?_⟩
      unfold closeL at hn
      have := (g.step i hs hu ha (by omega) (by omega)).2
      omega
    | succ k ih =>
      intro T hk g low
      by_cases hc : ∀ s u a, s < n → u < n → a < m → closeL x y T s u a
      · exact ⟨T, g, low, hc⟩
      · have : ∃ s u a, s < n ∧ u < n ∧ a < m ∧ ¬closeL x y T s u a := Classical.byContradiction fun hn => hc fun s u a hs hu ha => Classical.byContradiction fun hh => hn ⟨s, u, a, hs, hu, ha, hh⟩
        obtain ⟨s, u, a, hs, hu, ha, hn⟩ := this
        unfold closeL at hn
        have hst := g.step i hs hu ha (by omega) (by omega)
        refine ih _ (by omega) hst.1 fun s' u' hs' hu' => ?_
        by_cases he : s' = s ∧ u' = u
        · obtain ⟨rfl, rfl⟩ := he
          rw [updT_self]; omega
        · rw [updT_other _ _ he]; exact low s' u' hs' hu'
  obtain ⟨T, g, low, hc⟩ := key _ (startT bad) (Nat.le_refl _) GoodL.start fun s u _ _ => startT_low s u
  have e : ∀ s u, s < n → u < n → leftD m x y bad s u = T s u := fun s u hs hu => (g.is i low hc hs hu).symm
  refine ⟨g.congr e, fun s u hs hu => by rw [e s u hs hu]; exact low s u hs hu, fun s u a hs hu ha => ?_⟩
  have := hc s u a hs hu ha
  unfold closeL at this ⊢
  rw [e s u hs hu, e _ _ (i.x s a hs ha) (i.y u a hu ha)]
  exact this
end


theorem act_bit {P : Int} {A : List Int} {N S : List (List Int)} {f : List Int} {part : Int} (g : GoodC P A N S f part) {u a : Nat} (hu : u < N.length) (ha : a < A.length) : besN N A f part u a < N.length := g.m.inL.y u a hu ha
theorem bes_yes {N : List (List Int)} {A f : List Int} {part : Int} {P : Int} {S : List (List Int)} (g : GoodM P A N S) {u a : Nat} (hu : u < N.length) (ha : a < A.length) (h : actOn A f part (a : Int) = true) : (N.getD u []).getD a 0 = ((besN N A f part u a : Nat) : Int) := by
  have := g.nx_lt hu ha
  unfold besN nx
  rw [if_pos h]; omega
theorem bes_no {N : List (List Int)} {A f : List Int} {part : Int} {u a : Nat} (h : ¬actOn A f part (a : Int) = true) : ((u : Nat) : Int) = ((besN N A f part u a : Nat) : Int) := by
  unfold besN; rw [if_neg h]
theorem left_cond {T : Nat → Nat → Int} {s u x y : Nat} : (bif decide (0 ≤ T x y) then bif decide (T s u < 0) then true else decide (T x y + 1 < T s u) else false) = true ↔ 0 ≤ T x y ∧ (T s u < 0 ∨ T x y + 1 < T s u) := by simp

theorem beside_fn (P : Int) (A : List Int) (N S : List (List Int)) (f : List Int) (part : Int) (u a : Nat) (g : GoodC P A N S f part) (hu : u < N.length) (ha : a < A.length) : LiftsD Tryd.prog 74 [.agg [.i P, .sl .int A, .sl (.sl .int) N, .sl (.sl .int) S], .sl .int f, .i part, .i (u : Int), .i (a : Int)] (.i ((besN N A f part u a : Nat) : Int)) := by
  have hact := g.act ha
  have gp := g.part
  have gP := g.m.parts
  have hrow := g.m.rowN u hu
  refine LiftsD.of_body 30 [.tmp 10] Tryd.func74 rfl Tryd.ntmps74 (by kernel_rfl) rfl rfl fun w0 X0 => ?_
  refine AWPD.seq fun K1 hK1 => ?_
  -- region 0
  refine AWPD.keep [0, 1, 2, 3, 4] rfl ?_
  refine AWPD.region tabOK rfl ?_
  refine hK1 _ _ ?_
  clear hK1
  refine AWPD.seq fun K2 hK2 => ?_
  refine AWPD.seq fun K3 hK3 => ?_
  -- region 1
  refine AWPD.keep [1, 2, 3, 4, 5] rfl ?_
  refine AWPD.region tabOK rfl ?_
  repeat refine And.intro (by first | exact fun h => h | exact fun _ => rfl | (intro h; rw [h]; rfl) | omega | (intros; (try dsimp only [Ty.T, Ty.size]); (try simp only [castL_self, Int.toNat_natCast, Int.toNat_zero, Int.toNat_one, true_and, List.length_append, List.length_set, List.length_drop, List.length_take, List.length_replicate, List.length_cons, List.length_nil, Nat.zero_add, Nat.mul_one]); omega) | decide | (intros; simp_all; done) | (intros; simp_all; omega)) ?_
  refine Exists.intro _ (Exists.intro _ (And.intro (StepD.call (bit_fn (f.getD (A.getD a 0).toNat 0) part (by omega) (by omega)) rfl rfl rfl) (And.intro rfl (And.intro trivial ?_))))
  refine hK3 _ _ ?_
  clear hK3
  first | refine AWPD.cond rfl (fun h0 => ?_) (fun h0 => ?_)
  · try dsimp only [Ty.T] at h0
    try simp only [castL_self] at h0
    try simp only [Int.toNat_natCast] at h0
    try simp only [Int.toNat_zero] at h0
    have hy : actOn A f part (a : Int) = true := by unfold actOn; rw [Int.toNat_natCast]; exact h0
    refine AWPD.seq fun K4 hK4 => ?_
    -- region 2
    refine AWPD.keep [3, 4, 5] rfl ?_
    refine AWPD.region tabOK rfl ?_
    repeat refine And.intro (by first | exact fun h => h | exact fun _ => rfl | (intro h; rw [h]; rfl) | omega | (intros; (try dsimp only [Ty.T, Ty.size]); (try simp only [castL_self, Int.toNat_natCast, Int.toNat_zero, Int.toNat_one, true_and, List.length_append, List.length_set, List.length_drop, List.length_take, List.length_replicate, List.length_cons, List.length_nil, Nat.zero_add, Nat.mul_one]); omega) | decide | (intros; simp_all; done) | (intros; simp_all; omega)) ?_
    refine hK4 _ _ ?_
    clear hK4
    refine AWPD.ret (And.intro (.inl rfl) ?_)
    -- result 0
    refine RetD.one ?_
    exact fitI rfl (bes_yes g.m hu ha hy)
  · try dsimp only [Ty.T] at h0
    try simp only [castL_self] at h0
    try simp only [Int.toNat_natCast] at h0
    try simp only [Int.toNat_zero] at h0
    have hy : ¬actOn A f part (a : Int) = true := by unfold actOn; rw [Int.toNat_natCast, show (f.getD (A.getD a 0).toNat 0).toNat.testBit part.toNat = false from h0]; decide
    refine AWPD.skip ?_
    refine hK2 _ _ ?_
    clear hK2
    refine AWPD.seq fun K5 hK5 => ?_
    -- region 3
    refine AWPD.keep [3] rfl ?_
    refine AWPD.region tabOK rfl ?_
    refine hK5 _ _ ?_
    clear hK5
    refine AWPD.ret (And.intro (.inl rfl) ?_)
    -- result 1
    refine RetD.one ?_
    exact fitI rfl (bes_no hy)
theorem left_fn (P : Int) (A : List Int) (N S : List (List Int)) (f : List Int) (part : Int) (g : GoodC P A N S f part) : LiftsD Tryd.prog 73 [.agg [.i P, .sl .int A, .sl (.sl .int) N, .sl (.sl .int) S], .sl .int f, .i part] (.sl (.sl .int) (tabI N.length (leftD A.length (nx N) (besN N A f part) (badN S part)) N.length)) := by
  have gp := g.part
  have gP := g.m.parts
  have hN := g.m.few
  have hN0 := g.m.some
  have hA6 := g.m.acts6
  have hSl := g.m.lenS
  have iL := g.m.inL (f := f) (part := part)
  refine LiftsD.of_body 126 [.tmp 6] Tryd.func73 rfl Tryd.ntmps73 (by kernel_rfl) rfl rfl fun w0 X0 => ?_
  refine AWPD.seq fun K1 hK1 => ?_
  -- region 0
  refine AWPD.keep [0, 1, 2] rfl ?_
  refine AWPD.region tabOK rfl ?_
  refine hK1 _ _ ?_
  clear hK1
  refine AWPD.seq fun K2 hK2 => ?_
  -- region 1
  refine AWPD.keep [1, 2, 3] rfl ?_
  refine AWPD.region tabOK rfl ?_
  repeat refine And.intro (by first | exact fun h => h | exact fun _ => rfl | (intro h; rw [h]; rfl) | omega | (intros; (try dsimp only [Ty.T, Ty.size]); (try simp only [castL_self, Int.toNat_natCast, Int.toNat_zero, Int.toNat_one, true_and, List.length_append, List.length_set, List.length_drop, List.length_take, List.length_replicate, List.length_cons, List.length_nil, Nat.zero_add, Nat.mul_one]); omega) | decide | (intros; simp_all; done) | (intros; simp_all; omega)) ?_
  refine hK2 _ _ ?_
  clear hK2
  refine AWPD.seq fun K3 hK3 => ?_
  -- region 2
  refine AWPD.keep [1, 2, 3, 7] rfl ?_
  refine AWPD.region tabOK rfl ?_
  refine hK3 _ _ ?_
  clear hK3
  refine AWPD.seq fun K4 hK4 => ?_
  refine AWPD.seq fun K5 hK5 => ?_
  -- region 3
  refine AWPD.keep [1, 2, 3, 7, 8] rfl ?_
  refine AWPD.region tabOK rfl ?_
  refine hK5 _ _ ?_
  clear hK5
  refine AWPD.block ?_
  -- LOOP 0 live [1, 2, 3, 7, 8, 9] changed [8, 9]
  refine AWPD.nilRow 8 22 .val rfl (by decide) ?_
  refine AWPD.rows0 [] ?_
  refine AWPD.loopK (σ := Nat × List Value) [1, 2, 3, 7] (fun z base => (8, .ob 0) :: (9, .i (z.1 : Int)) :: base) (fun z => [.row 22 .val z.2, rowsO z.2 (osI N.length (startT (badN S part)) z.1)]) (fun n z => n + z.1 = N.length ∧ z.2.length = z.1) N.length (0, []) [0, 1] rfl rfl (⟨by omega, rfl⟩) (by decide) ⟨⟨rfl, rfl, rfl⟩, rfl, trivial⟩ (by repeat' first | exact True.intro | exact rfl | exact ⟨rfl, rfl⟩ | refine And.intro ?_ ?_) fun n0 z hI0 => ?_
  obtain ⟨s, hd⟩ := z
  obtain ⟨hn0, hdl⟩ := hI0
  dsimp only at hn0 hdl ⊢
  refine AWPD.seq fun K6 hK6 => ?_
  refine AWPD.seq fun K7 hK7 => ?_
  -- region 4
  refine AWPD.keep [1, 2, 3, 7, 8, 9] rfl ?_
  refine AWPD.region tabOK rfl ?_
  refine hK7 _ _ ?_
  clear hK7
  first | refine AWPD.condP rfl (fun h0 => ?_) (fun h0 => ?_) | refine AWPD.condN rfl (fun h0 => ?_) (fun h0 => ?_) | refine AWPD.condAP rfl (fun h0 => ?_) (fun h0 => ?_) | refine AWPD.condOP rfl (fun h0 => ?_) (fun h0 => ?_) | refine AWPD.condONN rfl (fun h0 => ?_) (fun h0 => ?_) | refine AWPD.condOPN rfl (fun h0 => ?_) (fun h0 => ?_) | refine AWPD.condA rfl (fun h0 => ?_) (fun h0 => ?_) | refine AWPD.condO rfl (fun h0 => ?_) (fun h0 => ?_) | refine AWPD.cond rfl (fun h0 => ?_) (fun h0 => ?_)
  · try dsimp only [Ty.T] at h0
    try simp only [castL_self] at h0
    try simp only [Int.toNat_natCast] at h0
    try simp only [Int.toNat_zero] at h0
    have hsl : s < N.length := by omega
    have hr1 := g.m.rowS s hsl
    refine AWPD.skip ?_
    refine hK6 _ _ ?_
    clear hK6
    refine AWPD.seq fun K8 hK8 => ?_
    refine AWPD.block ?_
    refine AWPD.seq fun K9 hK9 => ?_
    -- region 6
    refine AWPD.keep [1, 2, 3, 7, 8, 9] rfl ?_
    refine AWPD.region tabOK rfl ?_
    refine hK9 _ _ ?_
    clear hK9
    refine AWPD.seq fun K10 hK10 => ?_
    refine AWPD.seq fun K11 hK11 => ?_
    -- region 7
    refine AWPD.keep [1, 2, 3, 7, 8, 9, 10] rfl ?_
    refine AWPD.region tabOK rfl ?_
    refine hK11 _ _ ?_
    clear hK11
    refine AWPD.block ?_
    -- LOOP 1 live [1, 2, 3, 7, 8, 9, 10, 11] changed [10, 11]
    refine AWPD.nilRow 10 3 .int rfl (by decide) ?_
    refine AWPD.loopK (σ := Nat) [1, 2, 3, 7, 9] (fun u base => (8, .ob 0) :: (10, .ob 2) :: (11, .i (u : Int)) :: base) (fun u => [.row 22 .val hd, rowsO hd (osI N.length (startT (badN S part)) s), .row 3 .int (rowI (startT (badN S part)) s u)]) (fun n u => n + u = N.length) (N.length) 0 [0, 1, 2] rfl rfl (by omega) (by decide) ⟨⟨rfl, rfl, rfl⟩, rfl, ⟨rfl, rfl, rfl⟩, trivial⟩ (by repeat' first | exact True.intro | exact rfl | exact ⟨rfl, rfl⟩ | refine And.intro ?_ ?_) fun n1 u hI1 => ?_
    have hn1 := hI1
    have hrl := rowI_len (startT (badN S part)) s u
    refine AWPD.seq fun K12 hK12 => ?_
    refine AWPD.seq fun K13 hK13 => ?_
    -- region 8
    refine AWPD.keep [1, 2, 3, 7, 8, 9, 10, 11] rfl ?_
    refine AWPD.region tabOK rfl ?_
    refine hK13 _ _ ?_
    clear hK13
    first | refine AWPD.condP rfl (fun h1 => ?_) (fun h1 => ?_) | refine AWPD.condN rfl (fun h1 => ?_) (fun h1 => ?_) | refine AWPD.condAP rfl (fun h1 => ?_) (fun h1 => ?_) | refine AWPD.condOP rfl (fun h1 => ?_) (fun h1 => ?_) | refine AWPD.condONN rfl (fun h1 => ?_) (fun h1 => ?_) | refine AWPD.condOPN rfl (fun h1 => ?_) (fun h1 => ?_) | refine AWPD.condA rfl (fun h1 => ?_) (fun h1 => ?_) | refine AWPD.condO rfl (fun h1 => ?_) (fun h1 => ?_) | refine AWPD.cond rfl (fun h1 => ?_) (fun h1 => ?_)
    · try dsimp only [Ty.T] at h1
      try simp only [castL_self] at h1
      try simp only [Int.toNat_natCast] at h1
      try simp only [Int.toNat_zero] at h1
      have hul : u < N.length := by omega
      have hr2 := g.m.rowS u hul
      refine AWPD.skip ?_
      refine hK12 _ _ ?_
      clear hK12
      refine AWPD.seq fun K14 hK14 => ?_
      refine AWPD.block ?_
      refine AWPD.seq fun K15 hK15 => ?_
      -- region 10
      refine AWPD.keep [1, 2, 3, 7, 8, 9, 10, 11] rfl ?_
      refine AWPD.region tabOK rfl ?_
      refine hK15 _ _ ?_
      clear hK15
      refine AWPD.seq fun K16 hK16 => ?_
      refine AWPD.seq fun K17 hK17 => ?_
      -- region 11
      refine AWPD.keep [1, 2, 3, 7, 8, 9, 10, 11, 12] rfl ?_
      refine AWPD.draw tabOK [] rfl (by kernel_rfl) ?_
      repeat refine And.intro (by first | exact fun h => h | exact fun _ => rfl | (intro h; rw [h]; rfl) | omega | (intros; (try dsimp only [Ty.T, Ty.size]); (try simp only [castL_self, Int.toNat_natCast, Int.toNat_zero, Int.toNat_one, true_and, List.length_append, List.length_set, List.length_drop, List.length_take, List.length_replicate, List.length_cons, List.length_nil, Nat.zero_add, Nat.mul_one]); omega) | decide | (intros; simp_all; done) | (intros; simp_all; omega)) ?_
      refine hK17 _ _ ?_
      clear hK17
      first | refine AWPD.condP rfl (fun h2 => ?_) (fun h2 => ?_) | refine AWPD.condN rfl (fun h2 => ?_) (fun h2 => ?_) | refine AWPD.condAP rfl (fun h2 => ?_) (fun h2 => ?_) | refine AWPD.condOP rfl (fun h2 => ?_) (fun h2 => ?_) | refine AWPD.condONN rfl (fun h2 => ?_) (fun h2 => ?_) | refine AWPD.condOPN rfl (fun h2 => ?_) (fun h2 => ?_) | refine AWPD.condA rfl (fun h2 => ?_) (fun h2 => ?_) | refine AWPD.condO rfl (fun h2 => ?_) (fun h2 => ?_) | refine AWPD.cond rfl (fun h2 => ?_) (fun h2 => ?_)
      · try dsimp only [Ty.T] at h2
        try simp only [castL_self] at h2
        try simp only [Int.toNat_natCast] at h2
        try simp only [Int.toNat_zero] at h2
        have hbv : (0 : Int) = startT (badN S part) s u := by unfold startT badN; rw [if_pos (decide_eq_true h2)]
        -- region 12
        refine AWPD.keep [1, 2, 3, 7, 8, 9, 10, 11] rfl ?_
        refine AWPD.region tabOK rfl ?_
        refine hK16 _ _ ?_
        clear hK16
        -- region 13
        refine AWPD.keep [1, 2, 3, 7, 8, 9, 10, 11, 12] rfl ?_
        refine AWPD.region tabOK rfl ?_
        repeat refine And.intro (by first | exact fun h => h | exact fun _ => rfl | (intro h; rw [h]; rfl) | omega | (intros; (try dsimp only [Ty.T, Ty.size]); (try simp only [castL_self, Int.toNat_natCast, Int.toNat_zero, Int.toNat_one, true_and, List.length_append, List.length_set, List.length_drop, List.length_take, List.length_replicate, List.length_cons, List.length_nil, Nat.zero_add, Nat.mul_one]); omega) | decide | (intros; simp_all; done) | (intros; simp_all; omega)) ?_
        refine hK14 _ _ ?_
        clear hK14
        -- region 9
        refine AWPD.keep [1, 2, 3, 7, 8, 9, 10, 11] rfl ?_
        refine AWPD.region tabOK rfl ?_
        repeat refine And.intro (by first | exact fun h => h | exact fun _ => rfl | (intro h; rw [h]; rfl) | omega | (intros; (try dsimp only [Ty.T, Ty.size]); (try simp only [castL_self, Int.toNat_natCast, Int.toNat_zero, Int.toNat_one, true_and, List.length_append, List.length_set, List.length_drop, List.length_take, List.length_replicate, List.length_cons, List.length_nil, Nat.zero_add, Nat.mul_one]); omega) | decide | (intros; simp_all; done) | (intros; simp_all; omega)) ?_
        refine ⟨n1 - 1, u + 1, [0, 1, 3], by omega, by omega, ⟨by decide, rfl⟩, ⟨⟨rfl, rfl, rfl⟩, rfl, ⟨rfl, rfl, rowI_snoc hbv⟩, trivial⟩, ?_⟩
        repeat' first | exact True.intro | exact rfl | exact ⟨rfl, rfl⟩ | refine And.intro ?_ ?_
      · try dsimp only [Ty.T] at h2
        try simp only [castL_self] at h2
        try simp only [Int.toNat_natCast] at h2
        try simp only [Int.toNat_zero] at h2
        have hbv : (-1 : Int) = startT (badN S part) s u := by unfold startT badN; rw [if_neg (fun h => h2 (of_decide_eq_true h))]
        refine AWPD.skip ?_
        refine hK16 _ _ ?_
        clear hK16
        -- region 13
        refine AWPD.keep [1, 2, 3, 7, 8, 9, 10, 11, 12] rfl ?_
        refine AWPD.region tabOK rfl ?_
        repeat refine And.intro (by first | exact fun h => h | exact fun _ => rfl | (intro h; rw [h]; rfl) | omega | (intros; (try dsimp only [Ty.T, Ty.size]); (try simp only [castL_self, Int.toNat_natCast, Int.toNat_zero, Int.toNat_one, true_and, List.length_append, List.length_set, List.length_drop, List.length_take, List.length_replicate, List.length_cons, List.length_nil, Nat.zero_add, Nat.mul_one]); omega) | decide | (intros; simp_all; done) | (intros; simp_all; omega)) ?_
        refine hK14 _ _ ?_
        clear hK14
        -- region 9
        refine AWPD.keep [1, 2, 3, 7, 8, 9, 10, 11] rfl ?_
        refine AWPD.region tabOK rfl ?_
        repeat refine And.intro (by first | exact fun h => h | exact fun _ => rfl | (intro h; rw [h]; rfl) | omega | (intros; (try dsimp only [Ty.T, Ty.size]); (try simp only [castL_self, Int.toNat_natCast, Int.toNat_zero, Int.toNat_one, true_and, List.length_append, List.length_set, List.length_drop, List.length_take, List.length_replicate, List.length_cons, List.length_nil, Nat.zero_add, Nat.mul_one]); omega) | decide | (intros; simp_all; done) | (intros; simp_all; omega)) ?_
        refine ⟨n1 - 1, u + 1, [0, 1, 3], by omega, by omega, ⟨by decide, rfl⟩, ⟨⟨rfl, rfl, rfl⟩, rfl, ⟨rfl, rfl, rowI_snoc hbv⟩, trivial⟩, ?_⟩
        repeat' first | exact True.intro | exact rfl | exact ⟨rfl, rfl⟩ | refine And.intro ?_ ?_
    · try dsimp only [Ty.T] at h1
      try simp only [castL_self] at h1
      try simp only [Int.toNat_natCast] at h1
      try simp only [Int.toNat_zero] at h1
      have hue : u = N.length := by omega
      subst hue
      refine AWPD.exit ?_
      refine hK10 _ _ ?_
      clear hK10
      -- region 14
      refine AWPD.keep [1, 2, 3, 7, 8, 9, 10] rfl ?_
      refine AWPD.region tabOK rfl ?_
      refine Exists.intro _ (Exists.intro _ (And.intro (StepD.buildH tabOK rfl rfl rfl rfl) (And.intro rfl (And.intro trivial ?_))))
      refine Exists.intro _ (Exists.intro _ (And.intro (StepD.appendH tabOK rfl rfl rfl rfl rfl (by omega)) (And.intro rfl (And.intro trivial ?_))))
      refine hK8 _ _ ?_
      clear hK8
      -- region 5
      refine AWPD.holeM 1 (.slice none 0 0) rfl ?_
      refine AWPD.absorb (xs := hd ++ [(.slice none 0 0 : Value)]) (os := osI N.length (startT (badN S part)) s ++ [OD.dead]) 3 1 2 hd.length (by decide) (by decide) (by decide) rfl rfl rfl (by rw [hdl]; exact osI_dead _ _ _) (by simp) (flat_int _) fun x => ?_
      refine AWPD.keep [1, 2, 3, 7, 8, 9] rfl ?_
      refine AWPD.region tabOK rfl ?_
      repeat refine And.intro (by first | exact fun h => h | exact fun _ => rfl | (intro h; rw [h]; rfl) | omega | (intros; (try dsimp only [Ty.T, Ty.size]); (try simp only [castL_self, Int.toNat_natCast, Int.toNat_zero, Int.toNat_one, true_and, List.length_append, List.length_set, List.length_drop, List.length_take, List.length_replicate, List.length_cons, List.length_nil, Nat.zero_add, Nat.mul_one]); omega) | decide | (intros; simp_all; done) | (intros; simp_all; omega)) ?_
      refine ⟨n0 - 1, (s + 1, (hd ++ [(.slice none 0 0 : Value)]).set hd.length x), [3, 1], by omega, ⟨by omega, by simp [hdl]⟩, ⟨by decide, rfl⟩, ⟨⟨rfl, rfl, rfl⟩, (by show rowsC _ _ = rowsC _ _; rw [hdl, osI_next]), trivial⟩, ?_⟩
      repeat' first | exact True.intro | exact rfl | exact ⟨rfl, rfl⟩ | refine And.intro ?_ ?_
  · try dsimp only [Ty.T] at h0
    try simp only [castL_self] at h0
    try simp only [Int.toNat_natCast] at h0
    try simp only [Int.toNat_zero] at h0
    have hse : s = N.length := by omega
    subst hse
    refine AWPD.exit ?_
    refine hK4 _ _ ?_
    clear hK4
    refine AWPD.seq fun K18 hK18 => ?_
    -- region 15
    refine AWPD.keep [1, 2, 3, 7, 8] rfl ?_
    refine AWPD.region tabOK rfl ?_
    refine hK18 _ _ ?_
    clear hK18
    refine AWPD.seq fun K19 hK19 => ?_
    refine AWPD.block ?_
    -- LOOP 2 live [1, 2, 3, 7, 8, 13] changed [13]
    refine AWPD.freeze 8 rfl rfl rfl ?_
    refine AWPD.loopK (σ := (Nat → Nat → Int) × Bool) [1, 2, 3, 7] (fun z2 base => (8, .sl .val hd) :: (13, .b z2.2) :: base) (fun z2 => [rowsO hd (osI N.length z2.1 N.length)]) (fun n z2 => GoodL N.length A.length (nx N) (besN N A f part) (badN S part) z2.1 ∧ (∀ s u, s < N.length → u < N.length → -1 ≤ z2.1 s u) ∧ ((z2.2 = true ∧ mesT N.length z2.1 < n) ∨ (z2.2 = false ∧ ∀ s u a, s < N.length → u < N.length → a < A.length → closeL (nx N) (besN N A f part) z2.1 s u a))) (mesT N.length (startT (badN S part)) + 1) (startT (badN S part), true) [1] rfl rfl (⟨GoodL.start, fun s u _ _ => startT_low s u, .inl ⟨rfl, Nat.lt_succ_self _⟩⟩) (by decide) ⟨rfl, trivial⟩ (by repeat' first | exact True.intro | exact rfl | exact ⟨rfl, rfl⟩ | refine And.intro ?_ ?_) fun n2 z2 hI2 => ?_
    obtain ⟨T2, b2⟩ := z2
    obtain ⟨hg2, hlo2, hst2⟩ := hI2
    dsimp only at hg2 hlo2 hst2 ⊢
    refine AWPD.seq fun K20 hK20 => ?_
    refine AWPD.seq fun K21 hK21 => ?_
    -- region 16
    refine AWPD.keep [1, 2, 3, 7, 8, 13] rfl ?_
    refine AWPD.region tabOK rfl ?_
    refine hK21 _ _ ?_
    clear hK21
    first | refine AWPD.cond rfl (fun h3 => ?_) (fun h3 => ?_)
    · try dsimp only [Ty.T] at h3
      try simp only [castL_self] at h3
      try simp only [Int.toNat_natCast] at h3
      try simp only [Int.toNat_zero] at h3
      have hm2 : mesT N.length T2 < n2 := by
        rcases hst2 with h | h
        · exact h.2
        · rw [h.1] at h3; cases h3
      refine AWPD.skip ?_
      refine hK20 _ _ ?_
      clear hK20
      refine AWPD.block ?_
      refine AWPD.seq fun K22 hK22 => ?_
      -- region 17
      refine AWPD.keep [1, 2, 3, 7, 8] rfl ?_
      refine AWPD.region tabOK rfl ?_
      refine hK22 _ _ ?_
      clear hK22
      refine AWPD.seq fun K23 hK23 => ?_
      -- region 18
      refine AWPD.keep [1, 2, 3, 7, 8, 13] rfl ?_
      refine AWPD.region tabOK rfl ?_
      refine hK23 _ _ ?_
      clear hK23
      refine AWPD.block ?_
      -- LOOP 3 live [1, 2, 3, 7, 8, 13, 14] changed [13, 14]
      refine AWPD.loopK (σ := Nat × (Nat → Nat → Int) × Bool) [1, 2, 3, 7] (fun z3 base => (8, .sl .val hd) :: (13, .b z3.2.2) :: (14, .i (z3.1 : Int)) :: base) (fun z3 => [rowsO hd (osI N.length z3.2.1 N.length)]) (fun n z3 => n + z3.1 = N.length ∧ InvL N.length A.length (nx N) (besN N A f part) (badN S part) T2 z3.2 z3.1 0 0) N.length (0, T2, false) [0] rfl rfl (⟨by omega, InvL.start hg2 hlo2⟩) (by decide) ⟨rfl, trivial⟩ (by repeat' first | exact True.intro | exact rfl | exact ⟨rfl, rfl⟩ | refine And.intro ?_ ?_) fun n3 z3 hI3 => ?_
      obtain ⟨s, T3, b3⟩ := z3
      obtain ⟨hn3, T3i⟩ := hI3
      dsimp only at hn3 T3i ⊢
      refine AWPD.seq fun K24 hK24 => ?_
      refine AWPD.seq fun K25 hK25 => ?_
      -- region 19
      refine AWPD.keep [1, 2, 3, 7, 8, 13, 14] rfl ?_
      refine AWPD.region tabOK rfl ?_
      refine hK25 _ _ ?_
      clear hK25
      first | refine AWPD.condP rfl (fun h4 => ?_) (fun h4 => ?_) | refine AWPD.condN rfl (fun h4 => ?_) (fun h4 => ?_) | refine AWPD.condAP rfl (fun h4 => ?_) (fun h4 => ?_) | refine AWPD.condOP rfl (fun h4 => ?_) (fun h4 => ?_) | refine AWPD.condONN rfl (fun h4 => ?_) (fun h4 => ?_) | refine AWPD.condOPN rfl (fun h4 => ?_) (fun h4 => ?_) | refine AWPD.condA rfl (fun h4 => ?_) (fun h4 => ?_) | refine AWPD.condO rfl (fun h4 => ?_) (fun h4 => ?_) | refine AWPD.cond rfl (fun h4 => ?_) (fun h4 => ?_)
      · try dsimp only [Ty.T] at h4
        try simp only [castL_self] at h4
        try simp only [Int.toNat_natCast] at h4
        try simp only [Int.toNat_zero] at h4
        have hsl : s < N.length := by omega
        refine AWPD.skip ?_
        refine hK24 _ _ ?_
        clear hK24
        refine AWPD.seq fun K26 hK26 => ?_
        refine AWPD.block ?_
        refine AWPD.seq fun K27 hK27 => ?_
        -- region 21
        refine AWPD.keep [1, 2, 3, 7, 8, 13, 14] rfl ?_
        refine AWPD.region tabOK rfl ?_
        refine hK27 _ _ ?_
        clear hK27
        refine AWPD.block ?_
        -- LOOP 4 live [1, 2, 3, 7, 8, 13, 14, 15] changed [13, 15]
        refine AWPD.loopK (σ := Nat × (Nat → Nat → Int) × Bool) [1, 2, 3, 7, 14] (fun z4 base => (8, .sl .val hd) :: (13, .b z4.2.2) :: (15, .i (z4.1 : Int)) :: base) (fun z4 => [rowsO hd (osI N.length z4.2.1 N.length)]) (fun n z4 => n + z4.1 = N.length ∧ InvL N.length A.length (nx N) (besN N A f part) (badN S part) T2 z4.2 s z4.1 0) N.length (0, T3, b3) [0] rfl rfl (⟨by omega, T3i⟩) (by decide) ⟨rfl, trivial⟩ (by repeat' first | exact True.intro | exact rfl | exact ⟨rfl, rfl⟩ | refine And.intro ?_ ?_) fun n4 z4 hI4 => ?_
        obtain ⟨u, T4, b4⟩ := z4
        obtain ⟨hn4, T4i⟩ := hI4
        dsimp only at hn4 T4i ⊢
        refine AWPD.seq fun K28 hK28 => ?_
        refine AWPD.seq fun K29 hK29 => ?_
        -- region 22
        refine AWPD.keep [1, 2, 3, 7, 8, 13, 14, 15] rfl ?_
        refine AWPD.region tabOK rfl ?_
        refine hK29 _ _ ?_
        clear hK29
        first | refine AWPD.condP rfl (fun h5 => ?_) (fun h5 => ?_) | refine AWPD.condN rfl (fun h5 => ?_) (fun h5 => ?_) | refine AWPD.condAP rfl (fun h5 => ?_) (fun h5 => ?_) | refine AWPD.condOP rfl (fun h5 => ?_) (fun h5 => ?_) | refine AWPD.condONN rfl (fun h5 => ?_) (fun h5 => ?_) | refine AWPD.condOPN rfl (fun h5 => ?_) (fun h5 => ?_) | refine AWPD.condA rfl (fun h5 => ?_) (fun h5 => ?_) | refine AWPD.condO rfl (fun h5 => ?_) (fun h5 => ?_) | refine AWPD.cond rfl (fun h5 => ?_) (fun h5 => ?_)
        · try dsimp only [Ty.T] at h5
          try simp only [castL_self] at h5
          try simp only [Int.toNat_natCast] at h5
          try simp only [Int.toNat_zero] at h5
          have hul : u < N.length := by omega
          refine AWPD.skip ?_
          refine hK28 _ _ ?_
          clear hK28
          refine AWPD.seq fun K30 hK30 => ?_
          refine AWPD.block ?_
          refine AWPD.seq fun K31 hK31 => ?_
          -- region 24
          refine AWPD.keep [1, 2, 3, 7, 8, 13, 14, 15] rfl ?_
          refine AWPD.region tabOK rfl ?_
          refine hK31 _ _ ?_
          clear hK31
          refine AWPD.block ?_
          -- LOOP 5 live [1, 2, 3, 7, 8, 13, 14, 15, 16] changed [13, 16]
          refine AWPD.loopK (σ := Nat × (Nat → Nat → Int) × Bool) [1, 2, 3, 7, 14, 15] (fun z5 base => (8, .sl .val hd) :: (13, .b z5.2.2) :: (16, .i (z5.1 : Int)) :: base) (fun z5 => [rowsO hd (osI N.length z5.2.1 N.length)]) (fun n z5 => n + z5.1 = A.length ∧ InvL N.length A.length (nx N) (besN N A f part) (badN S part) T2 z5.2 s u z5.1) A.length (0, T4, b4) [0] rfl rfl (⟨by omega, T4i⟩) (by decide) ⟨rfl, trivial⟩ (by repeat' first | exact True.intro | exact rfl | exact ⟨rfl, rfl⟩ | refine And.intro ?_ ?_) fun n5 z5 hI5 => ?_
          obtain ⟨a, T5, b5⟩ := z5
          obtain ⟨hn5, T5i⟩ := hI5
          dsimp only at hn5 T5i ⊢
          refine AWPD.seq fun K32 hK32 => ?_
          refine AWPD.seq fun K33 hK33 => ?_
          -- region 25
          refine AWPD.keep [1, 2, 3, 7, 8, 13, 14, 15, 16] rfl ?_
          refine AWPD.region tabOK rfl ?_
          repeat refine And.intro (by first | exact fun h => h | exact fun _ => rfl | (intro h; rw [h]; rfl) | omega | (intros; (try dsimp only [Ty.T, Ty.size]); (try simp only [castL_self, Int.toNat_natCast, Int.toNat_zero, Int.toNat_one, true_and, List.length_append, List.length_set, List.length_drop, List.length_take, List.length_replicate, List.length_cons, List.length_nil, Nat.zero_add, Nat.mul_one]); omega) | decide | (intros; simp_all; done) | (intros; simp_all; omega)) ?_
          refine hK33 _ _ ?_
          clear hK33
          first | refine AWPD.condP rfl (fun h6 => ?_) (fun h6 => ?_) | refine AWPD.condN rfl (fun h6 => ?_) (fun h6 => ?_) | refine AWPD.condAP rfl (fun h6 => ?_) (fun h6 => ?_) | refine AWPD.condOP rfl (fun h6 => ?_) (fun h6 => ?_) | refine AWPD.condONN rfl (fun h6 => ?_) (fun h6 => ?_) | refine AWPD.condOPN rfl (fun h6 => ?_) (fun h6 => ?_) | refine AWPD.condA rfl (fun h6 => ?_) (fun h6 => ?_) | refine AWPD.condO rfl (fun h6 => ?_) (fun h6 => ?_) | refine AWPD.cond rfl (fun h6 => ?_) (fun h6 => ?_)
          · try dsimp only [Ty.T] at h6
            try simp only [castL_self] at h6
            try simp only [Int.toNat_natCast] at h6
            try simp only [Int.toNat_zero] at h6
            have hal : a < A.length := by omega
            have hxr := g.m.nx_lt hsl hal
            have hyr := iL.y u a hul hal
            have hrow := g.m.rowN s hsl
            have htx := T5i.good.top hxr.2.2 hyr
            have hN256 : N.length * N.length ≤ 256 := Nat.mul_le_mul hN hN
            have htx2 : T5 (nx N s a) (besN N A f part u a) < 256 := Int.lt_of_lt_of_le htx (Int.ofNat_le.2 hN256)
            have hlx := T5i.low _ _ hxr.2.2 hyr
            have hrg := rowI_get (T := T5) (i := nx N s a) hyr
            have hsu := rowI_get (T := T5) (i := s) hul
            refine AWPD.skip ?_
            refine hK32 _ _ ?_
            clear hK32
            refine AWPD.seq fun K34 hK34 => ?_
            refine AWPD.block ?_
            refine AWPD.seq fun K35 hK35 => ?_
            -- region 27
            refine AWPD.keep [1, 2, 3, 7, 8, 13, 14, 15, 16] rfl ?_
            refine AWPD.draw tabOK [] rfl (by kernel_rfl) ?_
            repeat refine And.intro (by first | exact fun h => h | exact fun _ => rfl | (intro h; rw [h]; rfl) | omega | (intros; (try dsimp only [Ty.T, Ty.size]); (try simp only [castL_self, Int.toNat_natCast, Int.toNat_zero, Int.toNat_one, true_and, List.length_append, List.length_set, List.length_drop, List.length_take, List.length_replicate, List.length_cons, List.length_nil, Nat.zero_add, Nat.mul_one]); omega) | decide | (intros; simp_all; done) | (intros; simp_all; omega)) ?_
            refine Exists.intro _ (Exists.intro _ (And.intro (StepD.call (beside_fn P A N S f part u a g hul hal) rfl rfl rfl) (And.intro rfl (And.intro rfl ?_))))
            refine Exists.intro _ (Exists.intro _ (And.intro (StepD.addrM 0 (nx N s a) (osI_get (by omega)) (flat_int _) tabOK rfl rfl (by simp only [rowI_len]; omega) rfl rfl rfl rfl rfl rfl) (And.intro rfl (And.intro rfl ?_))))
            refine Exists.intro _ (Exists.intro _ (And.intro (StepD.loadM (k := besN N A f part u a) (c := 0) 0 (nx N s a) (osI_get (by omega)) (flat_int _) tabOK rfl rfl rfl (by simp only [rowI_len]; omega) rfl rfl rfl rfl) (And.intro rfl (And.intro rfl ?_))))
            refine hK35 _ _ ?_
            clear hK35
            refine AWPD.seq fun K36 hK36 => ?_
            -- region 28
            rw [hrg]
            refine AWPD.keep [1, 2, 3, 7, 8, 13, 14, 15, 16, 17] rfl ?_
            refine AWPD.region tabOK rfl ?_
            repeat refine And.intro (by first | exact fun h => h | exact fun _ => rfl | (intro h; rw [h]; rfl) | omega | (intros; (try dsimp only [Ty.T, Ty.size]); (try simp only [castL_self, Int.toNat_natCast, Int.toNat_zero, Int.toNat_one, true_and, List.length_append, List.length_set, List.length_drop, List.length_take, List.length_replicate, List.length_cons, List.length_nil, Nat.zero_add, Nat.mul_one]); omega) | decide | (intros; simp_all; done) | (intros; simp_all; omega)) ?_
            refine Exists.intro _ (Exists.intro _ (And.intro (fun hg => StepD.addrM 0 (s) (osI_get (by omega)) (flat_int _) tabOK rfl rfl (by simp only [rowI_len]; omega) rfl rfl rfl rfl rfl rfl) (And.intro (fun hf => rfl) (And.intro rfl (And.intro trivial ?_)))))
            repeat refine And.intro (by first | exact fun h => h | exact fun _ => rfl | (intro h; rw [h]; rfl) | omega | (intros; (try dsimp only [Ty.T, Ty.size]); (try simp only [castL_self, Int.toNat_natCast, Int.toNat_zero, Int.toNat_one, true_and, List.length_append, List.length_set, List.length_drop, List.length_take, List.length_replicate, List.length_cons, List.length_nil, Nat.zero_add, Nat.mul_one]); omega) | decide | (intros; simp_all; done) | (intros; simp_all; omega)) ?_
            refine Exists.intro _ (Exists.intro _ (And.intro (fun hg => StepD.loadM (k := u) (c := 0) 0 (s) (osI_get (by omega)) (flat_int _) tabOK rfl rfl rfl (by simp only [rowI_len]; omega) rfl rfl rfl rfl) (And.intro (fun hf => rfl) (And.intro rfl (And.intro trivial ?_)))))
            repeat refine And.intro (by first | exact fun h => h | exact fun _ => rfl | (intro h; rw [h]; rfl) | omega | (intros; (try dsimp only [Ty.T, Ty.size]); (try simp only [castL_self, Int.toNat_natCast, Int.toNat_zero, Int.toNat_one, true_and, List.length_append, List.length_set, List.length_drop, List.length_take, List.length_replicate, List.length_cons, List.length_nil, Nat.zero_add, Nat.mul_one]); omega) | decide | (intros; simp_all; done) | (intros; simp_all; omega)) ?_
            refine Exists.intro _ (Exists.intro _ (And.intro (fun hg => StepD.addrM 0 (s) (osI_get (by omega)) (flat_int _) tabOK rfl rfl (by simp only [rowI_len]; omega) rfl rfl rfl rfl rfl rfl) (And.intro (fun hf => rfl) (And.intro rfl (And.intro trivial ?_)))))
            repeat refine And.intro (by first | exact fun h => h | exact fun _ => rfl | (intro h; rw [h]; rfl) | omega | (intros; (try dsimp only [Ty.T, Ty.size]); (try simp only [castL_self, Int.toNat_natCast, Int.toNat_zero, Int.toNat_one, true_and, List.length_append, List.length_set, List.length_drop, List.length_take, List.length_replicate, List.length_cons, List.length_nil, Nat.zero_add, Nat.mul_one]); omega) | decide | (intros; simp_all; done) | (intros; simp_all; omega)) ?_
            refine Exists.intro _ (Exists.intro _ (And.intro (fun hg => StepD.loadM (k := u) (c := 0) 0 (s) (osI_get (by omega)) (flat_int _) tabOK rfl rfl rfl (by simp only [rowI_len]; omega) rfl rfl rfl rfl) (And.intro (fun hf => rfl) (And.intro rfl (And.intro trivial ?_)))))
            repeat refine And.intro (by first | exact fun h => h | exact fun _ => rfl | (intro h; rw [h]; rfl) | omega | (intros; (try dsimp only [Ty.T, Ty.size]); (try simp only [castL_self, Int.toNat_natCast, Int.toNat_zero, Int.toNat_one, true_and, List.length_append, List.length_set, List.length_drop, List.length_take, List.length_replicate, List.length_cons, List.length_nil, Nat.zero_add, Nat.mul_one]); omega) | decide | (intros; simp_all; done) | (intros; simp_all; omega)) ?_
            refine hK36 _ _ ?_
            clear hK36
            first | refine AWPD.cond rfl (fun h7 => ?_) (fun h7 => ?_)
            · try dsimp only [Ty.T] at h7
              try simp only [castL_self] at h7
              try simp only [Int.toNat_natCast] at h7
              try simp only [Int.toNat_zero] at h7
              rw [hsu] at h7
              have hy7 := left_cond.1 h7
              refine AWPD.seq fun K37 hK37 => ?_
              -- region 29
              refine AWPD.keep [1, 2, 3, 7, 8, 14, 15, 16, 17] rfl ?_
              refine AWPD.region tabOK rfl ?_
              repeat refine And.intro (by first | exact fun h => h | exact fun _ => rfl | (intro h; rw [h]; rfl) | omega | (intros; (try dsimp only [Ty.T, Ty.size]); (try simp only [castL_self, Int.toNat_natCast, Int.toNat_zero, Int.toNat_one, true_and, List.length_append, List.length_set, List.length_drop, List.length_take, List.length_replicate, List.length_cons, List.length_nil, Nat.zero_add, Nat.mul_one]); omega) | decide | (intros; simp_all; done) | (intros; simp_all; omega)) ?_
              refine Exists.intro _ (Exists.intro _ (And.intro (StepD.addrM 0 (s) (osI_get (by omega)) (flat_int _) tabOK rfl rfl (by simp only [rowI_len]; omega) rfl rfl rfl rfl rfl rfl) (And.intro rfl (And.intro trivial ?_))))
              refine Exists.intro _ (Exists.intro _ (And.intro (StepD.storeM (k := u) (c := 0) 0 s (osI_get (by omega)) (fun _ => flat_int _) tabOK rfl rfl (by simp only [rowI_len]; omega) rfl rfl rfl rfl rfl rfl) (And.intro rfl (And.intro trivial ?_))))
              refine hK37 _ _ ?_
              clear hK37
              -- region 30
              refine AWPD.keep [1, 2, 3, 7, 8, 14, 15, 16] rfl ?_
              refine AWPD.region tabOK rfl ?_
              refine hK34 _ _ ?_
              clear hK34
              -- region 26
              refine AWPD.keep [1, 2, 3, 7, 8, 13, 14, 15, 16] rfl ?_
              refine AWPD.region tabOK rfl ?_
              repeat refine And.intro (by first | exact fun h => h | exact fun _ => rfl | (intro h; rw [h]; rfl) | omega | (intros; (try dsimp only [Ty.T, Ty.size]); (try simp only [castL_self, Int.toNat_natCast, Int.toNat_zero, Int.toNat_one, true_and, List.length_append, List.length_set, List.length_drop, List.length_take, List.length_replicate, List.length_cons, List.length_nil, Nat.zero_add, Nat.mul_one]); omega) | decide | (intros; simp_all; done) | (intros; simp_all; omega)) ?_
              refine ⟨n5 - 1, (a + 1, updT T5 s u (T5 (nx N s a) (besN N A f part u a) + 1), true), [0], by omega, ⟨by omega, T5i.yes iL hsl hul hal hy7⟩, ⟨by decide, rfl⟩, ⟨(by show rowsC hd ((osI N.length T5 N.length).set s (.row _ .int ((rowI T5 s N.length).set u _))) = rowsC _ _; rw [← osI_upd hsl hul]), trivial⟩, ?_⟩
              repeat' first | exact True.intro | exact rfl | exact ⟨rfl, rfl⟩ | refine And.intro ?_ ?_
            · try dsimp only [Ty.T] at h7
              try simp only [castL_self] at h7
              try simp only [Int.toNat_natCast] at h7
              try simp only [Int.toNat_zero] at h7
              rw [hsu] at h7
              have hn7 : ¬(0 ≤ T5 (nx N s a) (besN N A f part u a) ∧ (T5 s u < 0 ∨ T5 (nx N s a) (besN N A f part u a) + 1 < T5 s u)) := fun hh => by rw [show _ = true from left_cond.2 hh] at h7; cases h7
              refine AWPD.skip ?_
              refine hK34 _ _ ?_
              clear hK34
              -- region 26
              refine AWPD.keep [1, 2, 3, 7, 8, 13, 14, 15, 16] rfl ?_
              refine AWPD.region tabOK rfl ?_
              repeat refine And.intro (by first | exact fun h => h | exact fun _ => rfl | (intro h; rw [h]; rfl) | omega | (intros; (try dsimp only [Ty.T, Ty.size]); (try simp only [castL_self, Int.toNat_natCast, Int.toNat_zero, Int.toNat_one, true_and, List.length_append, List.length_set, List.length_drop, List.length_take, List.length_replicate, List.length_cons, List.length_nil, Nat.zero_add, Nat.mul_one]); omega) | decide | (intros; simp_all; done) | (intros; simp_all; omega)) ?_
              refine ⟨n5 - 1, (a + 1, T5, b5), [0], by omega, ⟨by omega, T5i.no hn7⟩, ⟨by decide, rfl⟩, ⟨rfl, trivial⟩, ?_⟩
              repeat' first | exact True.intro | exact rfl | exact ⟨rfl, rfl⟩ | refine And.intro ?_ ?_
          · try dsimp only [Ty.T] at h6
            try simp only [castL_self] at h6
            try simp only [Int.toNat_natCast] at h6
            try simp only [Int.toNat_zero] at h6
            have hae : a = A.length := by omega
            subst hae
            refine AWPD.exit ?_
            refine hK30 _ _ ?_
            clear hK30
            -- region 23
            refine AWPD.keep [1, 2, 3, 7, 8, 13, 14, 15] rfl ?_
            refine AWPD.region tabOK rfl ?_
            repeat refine And.intro (by first | exact fun h => h | exact fun _ => rfl | (intro h; rw [h]; rfl) | omega | (intros; (try dsimp only [Ty.T, Ty.size]); (try simp only [castL_self, Int.toNat_natCast, Int.toNat_zero, Int.toNat_one, true_and, List.length_append, List.length_set, List.length_drop, List.length_take, List.length_replicate, List.length_cons, List.length_nil, Nat.zero_add, Nat.mul_one]); omega) | decide | (intros; simp_all; done) | (intros; simp_all; omega)) ?_
            refine ⟨n4 - 1, (u + 1, T5, b5), [0], by omega, ⟨by omega, T5i.nextU⟩, ⟨by decide, rfl⟩, ⟨rfl, trivial⟩, ?_⟩
            repeat' first | exact True.intro | exact rfl | exact ⟨rfl, rfl⟩ | refine And.intro ?_ ?_
        · try dsimp only [Ty.T] at h5
          try simp only [castL_self] at h5
          try simp only [Int.toNat_natCast] at h5
          try simp only [Int.toNat_zero] at h5
          have hue : u = N.length := by omega
          subst hue
          refine AWPD.exit ?_
          refine hK26 _ _ ?_
          clear hK26
          -- region 20
          refine AWPD.keep [1, 2, 3, 7, 8, 13, 14] rfl ?_
          refine AWPD.region tabOK rfl ?_
          repeat refine And.intro (by first | exact fun h => h | exact fun _ => rfl | (intro h; rw [h]; rfl) | omega | (intros; (try dsimp only [Ty.T, Ty.size]); (try simp only [castL_self, Int.toNat_natCast, Int.toNat_zero, Int.toNat_one, true_and, List.length_append, List.length_set, List.length_drop, List.length_take, List.length_replicate, List.length_cons, List.length_nil, Nat.zero_add, Nat.mul_one]); omega) | decide | (intros; simp_all; done) | (intros; simp_all; omega)) ?_
          refine ⟨n3 - 1, (s + 1, T4, b4), [0], by omega, ⟨by omega, T4i.nextS⟩, ⟨by decide, rfl⟩, ⟨rfl, trivial⟩, ?_⟩
          repeat' first | exact True.intro | exact rfl | exact ⟨rfl, rfl⟩ | refine And.intro ?_ ?_
      · try dsimp only [Ty.T] at h4
        try simp only [castL_self] at h4
        try simp only [Int.toNat_natCast] at h4
        try simp only [Int.toNat_zero] at h4
        have hse : s = N.length := by omega
        subst hse
        refine AWPD.exit ?_
        refine ⟨n2 - 1, (T3, b3), [0], by omega, ⟨T3i.good, T3i.low, by
              rcases T3i.st with ⟨e1, e2, e3⟩ | ⟨e1, e2⟩
              · exact .inr ⟨e1, fun s u a h1 h2 h3 => by rw [show T3 = T2 from e2]; exact e3 s u a h1 h2 h3 (.inl h1)⟩
              · exact .inl ⟨e1, Nat.lt_of_lt_of_le e2 (by omega)⟩⟩, ⟨by decide, rfl⟩, ⟨rfl, trivial⟩, ?_⟩
        repeat' first | exact True.intro | exact rfl | exact ⟨rfl, rfl⟩ | refine And.intro ?_ ?_
    · try dsimp only [Ty.T] at h3
      try simp only [castL_self] at h3
      try simp only [Int.toNat_natCast] at h3
      try simp only [Int.toNat_zero] at h3
      have hcl : ∀ s u a, s < N.length → u < N.length → a < A.length → closeL (nx N) (besN N A f part) T2 s u a := by
        rcases hst2 with h | h
        · rw [h.1] at h3; cases h3
        · exact h.2
      refine AWPD.exit ?_
      refine hK19 _ _ ?_
      clear hK19
      refine AWPD.seq fun K38 hK38 => ?_
      -- region 31
      refine AWPD.freezeM (τ := .int) 8 0 (tabI N.length T2 N.length) rfl rfl rfl rfl ?_
      refine AWPD.keep [8] rfl ?_
      refine AWPD.region tabOK rfl ?_
      refine hK38 _ _ ?_
      clear hK38
      refine AWPD.ret (And.intro (.inl rfl) ?_)
      -- result 0
      refine RetD.one ?_
      exact fitS rfl (tabI_congr fun s u hs hu => hg2.is iL hlo2 hcl hs hu)
end Go.Proofs.YtndoigkmdcgjfaaDoor
