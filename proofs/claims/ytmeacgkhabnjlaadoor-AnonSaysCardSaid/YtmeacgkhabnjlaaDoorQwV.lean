/-
  An abstract machine over the model's own code, part V: what a row's arguments read as, where they are structs with slices, or slices of pairs. No program is named here.
-/
import Derived.Test.YtmeacgkhabnjlaaDoorQwR
import Derived.Deep.SlicePairs
set_option linter.unusedSimpArgs false
set_option linter.unusedVariables false
set_option linter.unusedSectionVars false
namespace Go.Qw
open Go.RowKit Go.ChangeShapes Go.WideShapes Go.ChangeAt Go.Deep
section
variable {H : Type} {enc : TypeId × Value → H} {P : Program} {W : World}

theorem cell_int {T : TypeId} {cs : List Value} {fuel : Nat} {x : DataW H × List MemPlace} {b : Nat} {sp : Nat → Bool} {hd : Bool} (hT : P.underlying T = some (.int .i64)) (h : DataW.trod enc P W b sp hd fuel T cs = some x) : ∃ n : Int, cs = [.int .i64 n] ∧ inI n := by
  obtain ⟨n, h1, _, hw⟩ := DataW.trod_int hT h
  exact ⟨n, h1, inI_of hw⟩
theorem cell_ints {T e : TypeId} {v : Value} {fuel : Nat} {x : DataW H × List MemPlace} (ht : P.underlying T = some (.slice e)) (he : P.underlying e = some (.int .i64)) (hc : P.cellsOf e = 1) (h : DataW.trod enc P W 0 (fun _ => true) true fuel T [v] = some x) :
    ∃ xs : List Int, VRep (okR W) W [] (DV.sl .int xs).av v := by
  rcases open_ints ht he hc h with ⟨hcs, _⟩ | ⟨a, len', cap', zs, hcs, _, hl, hm, hz, _, hcell, hwz⟩
  · simp only [List.cons.injEq, and_true] at hcs
    subst hcs
    exact ⟨[], rep_row (Z := []) (Nat.le_refl _) (Nat.zero_le _) rfl (fun _ => rfl) (fun a' h => by cases h)⟩
  · simp only [List.cons.injEq, and_true] at hcs
    subst hcs
    simp only [if_true] at hz
    exact ⟨zs.take len', rep_row hl hm hz (fun h => by cases h) (fun a' h c hc => by cases h; exact hcell c (by omega))⟩
theorem cell_rows {T e q : TypeId} {v : Value} {fuel : Nat} {x : DataW H × List MemPlace} (ht : P.underlying T = some (.slice e)) (he : P.underlying e = some (.slice q)) (hq : P.underlying q = some (.int .i64)) (ce : P.cellsOf e = 1) (cq : P.cellsOf q = 1) (h : DataW.trod enc P W 0 (fun _ => true) true fuel T [v] = some x) :
    ∃ xs : List (List Int), VRep (okR W) W [] (DV.sl (.sl .int) xs).av v := by
  rcases open_int_rows ht he hq ce cq h with ⟨hcs, _⟩ | ⟨a, len, cap, A, L, C, Z, hcs, _, hl, hm, _, hrow⟩
  · simp only [List.cons.injEq, and_true] at hcs
    subst hcs
    refine ⟨[], ?_⟩
    simp only [DV.av]
    unfold VRep
    exact ⟨by decide, none, 0, 0, rfl, rfl, Nat.le_refl _, Nat.zero_le _, fun hne => absurd rfl hne⟩
  · simp only [List.cons.injEq, and_true] at hcs
    subst hcs
    refine ⟨(List.range len).map fun r => (Z r).take (L r), ?_⟩
    have e : (DV.sl (.sl .int) ((List.range len).map fun r => (Z r).take (L r))).av = .rd 1 ((List.range len).map fun r => (DV.sl .int ((Z r).take (L r))).av) :=
      congrArg (AV.rd 1) ((flat_sls (τ := .int) ((List.range len).map fun r => (Z r).take (L r))).trans (List.map_map ..))
    rw [e]
    unfold VRep
    refine ⟨by decide, some a, len, cap, rfl, by simp, hl, hm, fun hne => ?_⟩
    have hpos : 0 < len := by
      rcases Nat.eq_zero_or_pos len with h | h
      · subst h; exact absurd rfl hne
      · exact h
    refine ⟨a, (List.range len).map fun r => .slice (A r) (L r) (C r), rfl, okR_of ?_, fun j u hu => ?_, VReps_map fun r hr => ?_⟩
    · have := cell_lt (hrow 0 (by omega)).1
      rwa [add_block] at this
    · rw [List.getElem?_map] at hu
      by_cases hj : j < len
      · rw [List.getElem?_range hj] at hu
        cases hu
        exact (hrow j (by omega)).1
      · rw [List.getElem?_eq_none (by simp; omega)] at hu
        cases hu
    · have hr' := List.mem_range.1 hr
      obtain ⟨_, h1, h2, h3, _, h5, h6⟩ := hrow r (by omega)
      exact rep_row h1 h2 h3 h5 fun a' ha' c hc => (h6 a' ha').2 c hc
/-- A struct of an int, a slice of ints, and two slices of slices of ints. -/
theorem rep_mach {b0 : Nat} {t e1 e2 q2 e3 q3 : TypeId} {f0 f1 f2 f3 : Field} {v : Value} {d : DataW H} {ps : List MemPlace} (ht : P.underlying t = some (.struct #[f0, f1, f2, f3])) (hc : P.cellsOf t = 4)
    (o : f0.offset = 0 ∧ f1.offset = 1 ∧ f2.offset = 2 ∧ f3.offset = 3) (c : P.cellsOf f0.type = 1 ∧ P.cellsOf f1.type = 1 ∧ P.cellsOf f2.type = 1 ∧ P.cellsOf f3.type = 1)
    (u0 : P.underlying f0.type = some (.int .i64)) (u1 : P.underlying f1.type = some (.slice e1)) (v1 : P.underlying e1 = some (.int .i64)) (w1 : P.cellsOf e1 = 1)
    (u2 : P.underlying f2.type = some (.slice e2)) (v2 : P.underlying e2 = some (.slice q2)) (x2 : P.underlying q2 = some (.int .i64)) (w2 : P.cellsOf e2 = 1) (y2 : P.cellsOf q2 = 1)
    (u3 : P.underlying f3.type = some (.slice e3)) (v3 : P.underlying e3 = some (.slice q3)) (x3 : P.underlying q3 = some (.int .i64)) (w3 : P.cellsOf e3 = 1) (y3 : P.cellsOf q3 = 1)
    (hval : Value.okWide P W .any b0 t v) (h : DataW.Trod enc P W 0 (fun _ => true) true t v d ps) :
    ∃ (n : Int) (A : List Int) (N S : List (List Int)), VRep (okR W) W [] (DV.agg [.i n, .sl .int A, .sl (.sl .int) N, .sl (.sl .int) S]).av v := by
  unfold Value.okWide at hval
  rw [ht] at hval
  obtain ⟨cs, rfl, hsz, _⟩ := hval
  obtain ⟨fuel, hf⟩ := h
  simp only [Value.cells] at hf
  obtain ⟨xs, k, _, _, hl, hlen, hfs⟩ := DataW.trod_struct ht hf
  have hl4 : cs.toList.length = 4 := by rw [hl, hc]
  match hcs : cs.toList, hl4 with
  | [a0, a1, a2, a3], _ =>
    match xs, hlen with
    | [z0, z1, z2, z3], _ =>
      have g0 := hfs 0 f0 rfl
      have g1 := hfs 1 f1 rfl
      have g2 := hfs 2 f2 rfl
      have g3 := hfs 3 f3 rfl
      rw [hcs, o.1, c.1] at g0
      rw [hcs, o.2.1, c.2.1] at g1
      rw [hcs, o.2.2.1, c.2.2.1] at g2
      rw [hcs, o.2.2.2, c.2.2.2] at g3
      obtain ⟨n, e0, _⟩ := cell_int u0 g0
      obtain ⟨A, r1⟩ := cell_ints u1 v1 w1 g1
      obtain ⟨N, r2⟩ := cell_rows u2 v2 x2 w2 y2 g2
      obtain ⟨S, r3⟩ := cell_rows u3 v3 x3 w3 y3 g3
      have e0 : a0 = .int .i64 n := by simpa using e0
      refine ⟨n, A, N, S, ?_⟩
      have hcs' : cs = #[a0, a1, a2, a3] := by rw [← Array.toArray_toList (xs := cs), hcs]
      subst hcs' e0
      have e : (DV.agg [.i n, .sl .int A, .sl (.sl .int) N, .sl (.sl .int) S]).av = .agg [iv n, (DV.sl .int A).av, (DV.sl (.sl .int) N).av, (DV.sl (.sl .int) S).av] := rfl
      rw [e]
      unfold VRep VReps VReps VReps VReps VReps
      exact ⟨_, rfl, _, _, rfl, VRep.v_iff.2 rfl, _, _, rfl, r1, _, _, rfl, r2, _, _, rfl, r3, rfl⟩
/-- A slice of pairs of ints. -/
theorem flat_two (xs : List (Int × Int)) : xs.flatMap (gT .two) = (xs.flatMap fun q => [Value.int .i64 q.1, Value.int .i64 q.2]).map .v := by
  induction xs with
  | nil => rfl
  | cons x r ih => rw [List.flatMap_cons, ih, List.flatMap_cons, List.map_append]; rfl
theorem rep_pairs {b0 : Nat} {t e : TypeId} {f0 f1 : Field} {v : Value} {d : DataW H} {ps : List MemPlace} (ht : P.underlying t = some (.slice e)) (he : P.underlying e = some (.struct #[f0, f1])) (ce : P.cellsOf e = 2) (o : f0.offset = 0 ∧ f1.offset = 1) (c : P.cellsOf f0.type = 1 ∧ P.cellsOf f1.type = 1)
    (u0 : P.underlying f0.type = some (.int .i64)) (u1 : P.underlying f1.type = some (.int .i64)) (hval : Value.okWide P W .any b0 t v) (h : DataW.Trod enc P W 0 (fun _ => true) true t v d ps) :
    ∃ xs : List (Int × Int), VRep (okR W) W [] (DV.sl .two xs).av v := by
  obtain ⟨a0, len, cap, rfl⟩ := okWide_slice ht hval
  obtain ⟨fuel, hf⟩ := h
  rcases open_slice_pairs ht he ce o.1 o.2 c.1 c.2 hf with ⟨hcs, _⟩ | ⟨a, len', cap', m, n, V0, V1, D0, D1, P0, P1, hcs, _, hl, hm, hmm, _, hx⟩
  · simp [Value.cells] at hcs
    obtain ⟨rfl, rfl, rfl⟩ := hcs
    refine ⟨[], ?_⟩
    simp only [DV.av]
    unfold VRep
    exact ⟨by decide, none, 0, 0, rfl, rfl, Nat.le_refl _, Nat.zero_le _, fun hne => absurd rfl hne⟩
  · simp [Value.cells] at hcs
    obtain ⟨rfl, rfl, rfl⟩ := hcs
    simp only [if_true] at hmm
    subst hmm
    have each : ∀ i, i < m → ∃ q : Int × Int, V0 i = .int .i64 q.1 ∧ V1 i = .int .i64 q.2 := fun i hi => by
      obtain ⟨_, _, h0, h1⟩ := hx i hi
      obtain ⟨n0, e0, _⟩ := cell_int u0 h0
      obtain ⟨n1, e1, _⟩ := cell_int u1 h1
      exact ⟨(n0, n1), by simpa using e0, by simpa using e1⟩
    obtain ⟨y, hy⟩ := choose_lt each
    refine ⟨(List.range len).map y, ?_⟩
    have e : (DV.sl .two ((List.range len).map y)).av = .rd 2 ((((List.range len).map y).flatMap fun q => [Value.int .i64 q.1, Value.int .i64 q.2]).map .v) := congrArg (AV.rd 2) (flat_two _)
    have hlen : ∀ l : List (Int × Int), (l.flatMap fun q => [Value.int .i64 q.1, Value.int .i64 q.2]).length = l.length * 2 := fun l => by
      induction l with
      | nil => rfl
      | cons x r ih => rw [List.flatMap_cons, List.length_append, ih, List.length_cons]; simp; omega
    rw [e]
    unfold VRep
    refine ⟨by decide, some a, len, m, rfl, by rw [List.length_map, hlen]; simp, hl, hm, fun hne => ?_⟩
    have hpos : 0 < len := by
      rcases Nat.eq_zero_or_pos len with h | h
      · subst h; exact absurd rfl hne
      · exact h
    refine ⟨a, _, rfl, okR_of ?_, fun j u hu => ?_, VReps.vals _⟩
    · have := cell_lt (hx 0 (by omega)).1
      rwa [add_block] at this
    · have hj : j < len * 2 := by
        have := (List.getElem?_eq_some_iff.1 hu).1
        rw [hlen] at this
        simpa using this
      have get : ∀ (l : List (Int × Int)) (k : Nat), (l.flatMap fun q => [Value.int .i64 q.1, Value.int .i64 q.2])[k * 2]? = (l[k]?).map (fun q => Value.int .i64 q.1) ∧ (l.flatMap fun q => [Value.int .i64 q.1, Value.int .i64 q.2])[k * 2 + 1]? = (l[k]?).map (fun q => Value.int .i64 q.2) := by
        intro l
        induction l with
        | nil => intro k; simp
        | cons x r ih =>
          intro k
          cases k with
          | zero => simp
          | succ k =>
            have h1 := (ih k).1
            have h2 := (ih k).2
            rw [show (k + 1) * 2 = k * 2 + 1 + 1 by omega]
            simp only [List.flatMap_cons, List.cons_append, List.nil_append, List.getElem?_cons_succ]
            exact ⟨h1, h2⟩
      have hk : j / 2 < len := by omega
      obtain ⟨c0, c1, _, _⟩ := hx (j / 2) (by omega)
      obtain ⟨y0, y1⟩ := hy (j / 2) (by omega)
      rcases Nat.mod_two_eq_zero_or_one j with hp | hp
      · have ej : j = j / 2 * 2 := by omega
        rw [ej] at hu ⊢
        rw [(get _ _).1, List.getElem?_map, List.getElem?_range hk] at hu
        simp only [Option.map_some, Option.some.injEq] at hu
        rw [c0, y0, hu]
      · have ej : j = j / 2 * 2 + 1 := by omega
        rw [ej] at hu ⊢
        rw [(get _ _).2, List.getElem?_map, List.getElem?_range hk] at hu
        simp only [Option.map_some, Option.some.injEq] at hu
        rw [c1, y1, hu]
end
end Go.Qw
