/-
  An abstract machine over the model's own code, part S: when two structs or arrays of ints are the same. No program is named here.
-/
import Derived.Test.YtmeacgkhabnjlaaDoorQwG
import Derived.Laws.StructEq
import Derived.ChangeKeysEq
set_option linter.unusedSimpArgs false
set_option linter.unusedVariables false
set_option linter.unusedSectionVars false
namespace Go.Qw
open Go.RowKit

def i64s (x : List Int) : Array Value := (x.map (.int .i64)).toArray
/-- '==' of two values of a type of n ints. -/
def EqT (P : Program) (T : TypeId) (n : Nat) : Prop :=
  P.eqGuardType P.depth T = false ∧ ∀ (x y : List Int) (w : World), x.length = n → y.length = n → (Op.equalIn 10000 T (.agg (i64s x)) (.agg (i64s y))).run P w = .ok (decide (x = y)) w
section
variable {P : Program}
theorem i64s_get {x : List Int} {k : Nat} (h : k < x.length) : (i64s x)[k]? = some (.int .i64 (x.getD k 0)) := by
  simp [i64s, h]
theorem drop_dec {x y : List Int} {k : Nat} (hx : k < x.length) (hy : k < y.length) : decide (x.drop k = y.drop k) = (decide (x.getD k 0 = y.getD k 0) && decide (x.drop (k + 1) = y.drop (k + 1))) := by
  have e1 := List.drop_eq_getElem_cons hx
  have e2 := List.drop_eq_getElem_cons hy
  rw [e1, e2]
  simp only [List.cons.injEq, List.getD, List.getElem?_eq_getElem hx, List.getElem?_eq_getElem hy, Option.getD_some, Bool.decide_and]
theorem drop_end {x y : List Int} {k : Nat} (hx : k = x.length) (hy : k = y.length) : decide (x.drop k = y.drop k) = true := by
  rw [List.drop_of_length_le (by omega), List.drop_of_length_le (by omega)]
  simp
def cmpF (P : Program) : Nat → List Field → Bool
  | _, [] => true
  | k, f :: r => f.name != "_" && (match P.underlying f.type with
    | some (.int .i64) => true
    | _ => false) && Nat.beq f.offset k && cmpF P (k + 1) r
theorem intT {t : TypeId} (h : (match P.underlying t with
    | some (.int .i64) => true
    | _ => false) = true) : P.underlying t = some (.int .i64) := by
  split at h
  · assumption
  · cases h
theorem eqFields_run {d : Nat} {x y : List Int} (w : World) : ∀ (fs : List Field) (k : Nat), cmpF P k fs = true → k + fs.length = x.length → k + fs.length = y.length → (Op.eqFields (d + 1) (i64s x) (i64s y) fs).run P w = .ok (decide (x.drop k = y.drop k)) w
  | [], k, _, hx, hy => by
    simp only [List.length_nil, Nat.add_zero] at hx hy
    rw [drop_end hx hy]
    simp [Op.eqFields]
  | f :: fs, k, h, hx, hy => by
    simp only [List.length_cons] at hx hy
    simp only [cmpF, Bool.and_eq_true, bne_iff_ne, ne_eq] at h
    obtain ⟨⟨⟨h1, h2⟩, h3⟩, h4⟩ := h
    have hu := intT h2
    have ho := Nat.eq_of_beq_eq_true h3
    have hp : P.plainKey f.type = true := by simp [Program.plainKey, hu]
    have ih := eqFields_run (d := d) (x := x) (y := y) w fs (k + 1) h4 (by omega) (by omega)
    rw [drop_dec (by omega) (by omega)]
    simp only [Op.eqFields, if_pos h1, Sem.run_bind, ho, run_part_plain w hp (i64s_get (x := x) (k := k) (by omega)), run_part_plain w hp (i64s_get (x := y) (k := k) (by omega)), Result.andThen_ok, run_equalIn_int w d f.type .i64 .i64 _ _ hu]
    rw [show (x.getD k 0 == y.getD k 0) = decide (x.getD k 0 = y.getD k 0) from rfl]
    generalize decide (x.getD k 0 = y.getD k 0) = bb
    cases bb
    · simp only [Bool.not_false, if_true, Sem.run_pure, Bool.false_and]
    · simp only [Bool.not_true, Bool.false_eq_true, if_false, Bool.true_and]
      exact ih
theorem eqItems_run {d : Nat} {e : TypeId} (hu : P.underlying e = some (.int .i64)) {x y : List Int} (w : World) : ∀ (n k : Nat), k + n = x.length → k + n = y.length → (Op.eqItems (d + 1) e 1 (i64s x) (i64s y) (List.range' k n)).run P w = .ok (decide (x.drop k = y.drop k)) w
  | 0, k, hx, hy => by
    simp only [Nat.add_zero] at hx hy
    rw [drop_end hx hy]
    simp [Op.eqItems]
  | n + 1, k, hx, hy => by
    have hp : P.plainKey e = true := by simp [Program.plainKey, hu]
    have ih := eqItems_run (d := d) (x := x) (y := y) hu w n (k + 1) (by omega) (by omega)
    rw [drop_dec (by omega) (by omega), List.range'_succ]
    simp only [Op.eqItems, Sem.run_bind, Nat.mul_one, run_part_plain w hp (i64s_get (x := x) (k := k) (by omega)), run_part_plain w hp (i64s_get (x := y) (k := k) (by omega)), Result.andThen_ok, run_equalIn_int w d e .i64 .i64 _ _ hu]
    rw [show (x.getD k 0 == y.getD k 0) = decide (x.getD k 0 = y.getD k 0) from rfl]
    generalize decide (x.getD k 0 = y.getD k 0) = bb
    cases bb
    · simp only [Bool.not_false, if_true, Sem.run_pure, Bool.false_and]
    · simp only [Bool.not_true, Bool.false_eq_true, if_false, Bool.true_and]
      exact ih
def cmpC (P : Program) (q : TypeId × Nat) : Bool := !P.eqGuardType P.depth q.1 && match P.underlying q.1 with
  | some (.struct fs) => !P.stoodInHeld q.1 && cmpF P 0 fs.toList && Nat.beq fs.toList.length q.2
  | some (.array n e) => Nat.beq n q.2 && (match P.underlying e with
    | some (.int .i64) => true
    | _ => false) && (match P.info? e with
    | some i => Nat.beq i.size 1
    | none => false)
  | _ => false
theorem cmpC_ok {q : TypeId × Nat} (h : cmpC P q = true) : EqT P q.1 q.2 := by
  simp only [cmpC, Bool.and_eq_true, Bool.not_eq_true'] at h
  obtain ⟨hg, h⟩ := h
  refine ⟨hg, fun x y w hx hy => ?_⟩
  split at h
  · rename_i fs hu
    simp only [Bool.and_eq_true, Bool.not_eq_true'] at h
    obtain ⟨⟨h1, h2⟩, h3⟩ := h
    have h3 := Nat.eq_of_beq_eq_true h3
    have hf : P.fieldsOf q.1 = fs := by simp [Program.fieldsOf, hu]
    rw [show (10000 : Nat) = 9998 + 1 + 1 from rfl, run_equalIn_struct w _ _ _ _ (by rw [hf]; exact hu) h1, hf, eqFields_run w fs.toList 0 h2 (by omega) (by omega)]
    simp
  · rename_i n e hu
    simp only [Bool.and_eq_true] at h
    obtain ⟨⟨h1, h2⟩, h3⟩ := h
    have h1 := Nat.eq_of_beq_eq_true h1
    have hue := intT h2
    split at h3
    · rename_i i hi
      have h3 := Nat.eq_of_beq_eq_true h3
      have hc : P.cellsOf e = 1 := by simp [Program.cellsOf, hi, h3]
      rw [show (10000 : Nat) = 9998 + 1 + 1 from rfl, run_equalIn_array w _ _ _ hu hi, hc, List.range_eq_range', eqItems_run hue w n 0 (by omega) (by omega)]
      simp
    · cases h3
  · cases h
theorem avs_i64s {ok : Nat → Prop} {w : World} {V : List Value} : ∀ {x : List Int} {us : List Value}, VReps ok w V (x.map iv) us → us = x.map (.int .i64)
  | [], us, h => by unfold List.map VReps at h; exact h
  | a :: x, us, h => by
    unfold List.map VReps at h
    obtain ⟨u, r, rfl, h1, h2⟩ := h
    rw [VRep.v_iff.1 h1, avs_i64s h2]; rfl
section
variable {C : Ctx} {ρ : Operand → Option AV} {H : List Ob} {d : Option Nat} {t : TypeId} {p : String} {af : Array Edge} {g : Option (Nat × Bool)} {xT yT : TypeId} {x y : Operand} {a b : List Int} {n : Nat}
theorem agg_is {ok : Nat → Prop} {w : World} {V : List Value} {u : Value} (h : VRep ok w V (.agg (a.map iv)) u) : u = .agg (i64s a) := by
  unfold VRep at h
  obtain ⟨us, rfl, h⟩ := h
  have := avs_i64s h
  rw [i64s, ← this]
theorem VStep.eqlAgg (hT : EqT P xT n) (ha : a.length = n) (hb : b.length = n) (hx : ρ x = some (.agg (a.map iv))) (hy : ρ y = some (.agg (b.map iv))) : VStep P C ⟨d, .binOp .eql xT x y yT, t, p, af, g⟩ ρ H (bv (decide (a = b))) H :=
  .same fun σ w V F _ h => ⟨.bool (decide (a = b)), by
    have e1 := agg_is (h x (by simp [Op.operands]) _ hx)
    have e2 := agg_is (h y (by simp [Op.operands]) _ hy)
    have hr := hT.2 a b w ha hb
    simp [execOp, e1, e2, run_eqGuard_agg w _ _ _ _ _ _ hT.1, run_eql_struct, hr], VRep.v_iff.2 rfl⟩
theorem VStep.neqAgg (hT : EqT P xT n) (ha : a.length = n) (hb : b.length = n) (hx : ρ x = some (.agg (a.map iv))) (hy : ρ y = some (.agg (b.map iv))) : VStep P C ⟨d, .binOp .neq xT x y yT, t, p, af, g⟩ ρ H (bv (decide (a ≠ b))) H :=
  .same fun σ w V F _ h => ⟨.bool (decide (a ≠ b)), by
    have e1 := agg_is (h x (by simp [Op.operands]) _ hx)
    have e2 := agg_is (h y (by simp [Op.operands]) _ hy)
    have hr := hT.2 a b w ha hb
    simp [execOp, e1, e2, run_eqGuard_agg w _ _ _ _ _ _ hT.1, run_neq_struct, hr], VRep.v_iff.2 rfl⟩
end
end
end Go.Qw
