/-
  An abstract machine over the model's own code: what a row's arguments read as, where they are slices of arrays of two ints. No program is named here.
-/
import Derived.Test.YtkncfjcmhaaafaaQwY
import Derived.OpenShut
namespace Go.Qw
open Go.RowKit Go.ChangeShapes Go.WideShapes Go.ChangeAt Go.Deep
section
variable {H : Type} {enc : TypeId × Value → H} {P : Program} {W : World}
theorem rep_twos {b0 : Nat} {t e q : TypeId} {v : Value} {d : DataW H} {ps : List MemPlace} (ht : P.underlying t = some (.slice e)) (he : P.underlying e = some (.array 2 q)) (hq : P.underlying q = some (.int .i64)) (ce : P.cellsOf e = 2) (cq : P.cellsOf q = 1)
    (hval : Value.okWide P W .any b0 t v) (h : DataW.Trod enc P W 0 (fun _ => true) true t v d ps) :
    ∃ xs : List (Int × Int), VRep (okR W) W [] (DV.sl .two xs).av v ∧ (xs = [] ∨ ∃ E S, d = .slice E S ∧ E.length = xs.length) := by
  obtain ⟨a0, len, cap, rfl⟩ := okWide_slice ht hval
  obtain ⟨fuel, hf⟩ := h
  rcases open_slice ht hf with ⟨hcs, _⟩ | ⟨a, len', cap', m, n, D, Pl, hcs, _, hl, hm, hmm, hd, hx⟩
  · simp [Value.cells] at hcs
    obtain ⟨rfl, rfl, rfl⟩ := hcs
    refine ⟨[], ?_, .inl rfl⟩
    simp only [DV.av]
    unfold VRep
    exact ⟨by decide, none, 0, 0, rfl, rfl, Nat.le_refl _, Nat.zero_le _, fun hne => absurd rfl hne⟩
  · simp [Value.cells] at hcs
    obtain ⟨rfl, rfl, rfl⟩ := hcs
    simp only [if_true] at hmm
    subst hmm
    have each : ∀ i, i < m → ∃ y : Int × Int, W.cell? (a.add (i * 2)) = some (.int .i64 y.1) ∧ W.cell? (a.add (i * 2 + 1)) = some (.int .i64 y.2) := fun i hi => by
      obtain ⟨cs', h1, h2⟩ := hx i hi
      rw [ce] at h1
      obtain ⟨_, hlen, hcell⟩ := World.cells?_some h1
      obtain ⟨xs, k, _, _, _, hxl, hf⟩ := DataW.trod_array he h2
      match xs, hxl, cs', hlen with
      | [y0, y1], _, [v0, v1], _ =>
        have g0 := hf 0 (by decide)
        have g1 := hf 1 (by decide)
        simp [cq] at g0 g1
        obtain ⟨n0, e0, _⟩ := cell_int hq g0
        obtain ⟨n1, e1, _⟩ := cell_int hq g1
        have c0 := hcell 0 (by omega)
        have c1 := hcell 1 (by omega)
        rw [add_add] at c0 c1
        refine ⟨(n0, n1), ?_, ?_⟩
        · have e0 : v0 = .int .i64 n0 := by simpa using e0
          rw [← e0]; simpa using c0
        · have e1 : v1 = .int .i64 n1 := by simpa using e1
          rw [← e1]; simpa using c1
    obtain ⟨y, hy⟩ := choose_lt each
    refine ⟨(List.range len).map y, ?_, .inr ⟨_, _, (Prod.ext_iff.1 hd).1, by simp⟩⟩
    have e : (DV.sl .two ((List.range len).map y)).av = .rd 2 ((((List.range len).map y).flatMap fun q => [Value.int .i64 q.1, Value.int .i64 q.2]).map .v) := congrArg (AV.rd 2) (flat_two _)
    have hlen : ∀ l : List (Int × Int), (l.flatMap fun q => [Value.int .i64 q.1, Value.int .i64 q.2]).length = l.length * 2 := fun l => by
      induction l with
      | nil => rfl
      | cons x r ih => rw [List.flatMap_cons, List.length_append, ih, List.length_cons]; simp; omega
    rw [e]
    unfold VRep
    refine ⟨by decide, some a, len, m, rfl, by rw [List.length_map, hlen]; simp, hl, hm, fun hne => ?_⟩
    have hpos : 0 < len := by
      rcases Nat.eq_zero_or_pos len with h | h
      · subst h; exact absurd rfl hne
      · exact h
    refine ⟨a, _, rfl, okR_of ?_, fun j u hu => ?_, VReps.vals _⟩
    · have := cell_lt (hy 0 (by omega)).1
      rwa [add_block] at this
    · have hj : j < len * 2 := by
        have := (List.getElem?_eq_some_iff.1 hu).1
        rw [hlen] at this
        simpa using this
      have get : ∀ (l : List (Int × Int)) (k : Nat), (l.flatMap fun q => [Value.int .i64 q.1, Value.int .i64 q.2])[k * 2]? = (l[k]?).map (fun q => Value.int .i64 q.1) ∧ (l.flatMap fun q => [Value.int .i64 q.1, Value.int .i64 q.2])[k * 2 + 1]? = (l[k]?).map (fun q => Value.int .i64 q.2) := by
        intro l
        induction l with
        | nil => intro k; simp
        | cons x r ih =>
          intro k
          cases k with
          | zero => simp
          | succ k =>
            have h1 := (ih k).1
            have h2 := (ih k).2
            rw [show (k + 1) * 2 = k * 2 + 1 + 1 by omega]
            simp only [List.flatMap_cons, List.cons_append, List.nil_append, List.getElem?_cons_succ]
            exact ⟨h1, h2⟩
      have hk : j / 2 < len := by omega
      obtain ⟨c0, c1⟩ := hy (j / 2) (by omega)
      rcases Nat.mod_two_eq_zero_or_one j with hp | hp
      · have ej : j = j / 2 * 2 := by omega
        rw [ej] at hu ⊢
        rw [(get _ _).1, List.getElem?_map, List.getElem?_range hk] at hu
        simp only [Option.map_some, Option.some.injEq] at hu
        rw [c0, hu]
      · have ej : j = j / 2 * 2 + 1 := by omega
        rw [ej] at hu ⊢
        rw [(get _ _).2, List.getElem?_map, List.getElem?_range hk] at hu
        simp only [Option.map_some, Option.some.injEq] at hu
        rw [c1, hu]
/-- Such a slice is no longer than the form allows. -/
theorem twos_few {ts : List TypeId} {ds : List (DataW H)} {j : Nat} {t e : TypeId} {d : DataW H} {xs : List (Int × Int)} (h : (DataW.weightsEach P ts ds).all (· ≤ reachBytes) = true) (ht : ts[j]? = some t) (hd : ds[j]? = some d) (hu : P.underlying t = some (.slice e)) (hb : P.bytesOf e = 16)
    (hx : xs = [] ∨ ∃ E S, d = .slice E S ∧ E.length = xs.length) : xs.length ≤ 8796093021952 := by
  rcases hx with rfl | ⟨E, S, rfl, hl⟩
  · simp
  · have := sized_slice h ht hd hu
    rw [hb] at this
    have hr : reachBytes = 140737488351232 := by decide
    omega
end
end Go.Qw
