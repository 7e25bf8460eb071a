/-
  An abstract machine over the model's own code, part T: maps from what is found to its place, queues, calls that turn an object of the caller's or hand out a new one. No program is named here.
-/
import Derived.Test.YtmeacgkhabnjlaaDoorQwP
import Derived.MapKept
import Derived.WideKeyRuns
import Derived.Carry
set_option linter.unusedSimpArgs false
set_option linter.unusedVariables false
set_option linter.unusedSectionVars false
namespace Go.Qw
open Go.RowKit

/-! ### Keys -/

/-- A key as a list of ints; as a value. -/
def keyL : (τ : Ty) → τ.T → List Int
  | .int, n => [n]
  | .two, q => [q.1, q.2]
  | .tup n, l => (List.range n).map fun i => (l : List Int).getD i 0
  | _, _ => []
def kv : (τ : Ty) → τ.T → Value
  | .int, n => .int .i64 n
  | .two, q => .agg (i64s [q.1, q.2])
  | .tup n, l => .agg (i64s ((List.range n).map fun i => (l : List Int).getD i 0))
  | _, _ => .nilFunc
def kAV : (τ : Ty) → τ.T → AV
  | .int, n => iv n
  | .two, q => .agg [iv q.1, iv q.2]
  | .tup n, l => .agg (((List.range n).map fun i => (l : List Int).getD i 0).map iv)
  | _, _ => .top
def keyed : Ty → Bool
  | .int => true
  | .two => true
  | .tup _ => true
  | _ => false
theorem kAV_is {τ : Ty} (hτ : keyed τ = true) {x : τ.T} {ok : Nat → Prop} {w : World} {V : List Value} {u : Value} (h : VRep ok w V (kAV τ x) u) : u = kv τ x := by
  cases τ with
  | int => exact VRep.v_iff.1 h
  | two => exact agg_is (a := [x.1, x.2]) h
  | tup n => exact agg_is h
  | bool => cases hτ
  | sl _ => cases hτ
  | val => cases hτ
/-- The place of a key among those that are found. -/
def idxK (τ : Ty) (x : τ.T) : List τ.T → Nat → Option Nat
  | [], _ => none
  | y :: ys, k => if keyL τ x = keyL τ y then some k else idxK τ x ys (k + 1)
def entsF (τ : Ty) : Nat → List τ.T → List MapEntry
  | _, [] => []
  | k, y :: ys => ⟨kv τ y, .int .i64 (k : Int), k⟩ :: entsF τ (k + 1) ys
theorem entsF_app (τ : Ty) (x : τ.T) : ∀ (ys : List τ.T) (k : Nat), entsF τ k (ys ++ [x]) = entsF τ k ys ++ [⟨kv τ x, .int .i64 ((k + ys.length : Nat) : Int), k + ys.length⟩]
  | [], k => by simp [entsF]
  | y :: ys, k => by
    simp only [List.cons_append, entsF, entsF_app τ x ys (k + 1), List.length_cons]
    rw [show k + 1 + ys.length = k + (ys.length + 1) by omega]

structure KeyT (P : Program) (K : TypeId) (τ : Ty) : Prop where
  keyed : keyed τ = true
  chk : ∀ (x : τ.T) (em : Bool) (w : World), (Instr.checkKey em 10000 K (kv τ x)).run P w = .ok () w
  find : ∀ (x : τ.T) (ys : List τ.T) (w : World), (Instr.findKey K (kv τ x) (entsF τ 0 ys)).run P w = .ok ((idxK τ x ys 0).map fun i => (i, .int .i64 (i : Int))) w

section
variable {P : Program}
theorem findNow_int (n : Int) (d : IntKind) : ∀ (ys : List Int) (k : Nat), Instr.findNow (.int d) (.int .i64 n) (entsF .int k ys) k = some ((idxK .int n ys k).map fun i => (i, .int .i64 (i : Int)))
  | [], k => rfl
  | y :: ys, k => by
    have ih := findNow_int n d ys (k + 1)
    simp only [entsF, Instr.findNow, kv, Instr.sameNow, if_true, idxK, keyL]
    by_cases h : n = y
    · subst h; simp
    · have hb : (n == y) = false := by simpa using h
      rw [hb]
      simp only [List.cons.injEq, and_true, h, if_false]
      exact ih
theorem findAsk_agg {K : TypeId} {n : Nat} (hT : EqT P K n) {τ : Ty} (hl : ∀ x : τ.T, (keyL τ x).length = n) (hkv : ∀ x : τ.T, kv τ x = .agg (i64s (keyL τ x))) (x : τ.T) (w : World) : ∀ (ys : List τ.T) (k : Nat), (Instr.findAsking K (kv τ x) (entsF τ k ys) k).run P w = .ok ((idxK τ x ys k).map fun i => (i, .int .i64 (i : Int))) w
  | [], k => by simp [entsF, Instr.findAsking, idxK]
  | y :: ys, k => by
    have ih := findAsk_agg hT hl hkv x w ys (k + 1)
    have he := hT.2 (keyL τ x) (keyL τ y) w (hl x) (hl y)
    simp only [entsF, Instr.findAsking, Sem.run_bind, Op.equal, Op.maxDepth, idxK]
    rw [hkv x, hkv y, he]
    simp only [Result.andThen_ok]
    by_cases h : keyL τ x = keyL τ y
    · simp [h]
    · rw [← hkv x]
      simp only [h, decide_false, Bool.false_eq_true, if_false]
      exact ih
theorem chk_int {e : TypeId} (hu : P.underlying e = some (.int .i64)) (em : Bool) (n : Nat) (v : Int) (w : World) : (Instr.checkKey em (n + 1) e (.int .i64 v)).run P w = .ok () w := by
  simp [Instr.checkKey, run_underlying hu]
theorem key_int {K : TypeId} (h : P.underlying K = some (.int .i64)) : KeyT P K .int :=
  ⟨rfl, fun x em w => chk_int h em 9999 x w, fun x ys w => MapKept.run_findKey h (findNow_int x .i64 ys 0)⟩
theorem chk_array {T e : TypeId} {n : Nat} (hT : P.underlying T = some (.array n e)) (hu : P.underlying e = some (.int .i64)) (hs : (P.info? e).map (·.size) = some 1) {x : List Int} (hx : x.length = n) (em : Bool) (d : Nat) (w : World) :
    (Instr.checkKey em (d + 2) T (.agg (i64s x))).run P w = .ok () w := by
  have hp : P.plainKey e = true := by simp [Program.plainKey, hu]
  rw [show d + 2 = (d + 1) + 1 from rfl, Instr.checkKey]
  simp only [Sem.run_bind, run_underlying hT, Result.andThen_ok]
  simp only [Std.Legacy.Range.forIn_eq_forIn_range', Std.Legacy.Range.size, Nat.sub_zero, Nat.add_one_sub_one, Nat.div_one]
  have each : ∀ j ∈ List.range' 0 n, j < x.length := fun j hj => by have := List.mem_range'_1.1 hj; omega
  generalize List.range' 0 n = is at each
  induction is with
  | nil => simp
  | cons j is ih =>
    have p1 := run_part_plain w hp (i64s_get (x := x) (k := j) (each j (by simp)))
    simp only [List.forIn_cons, Sem.run_bind, run_sizeOf hs w, Result.andThen_ok, Nat.mul_one, p1, chk_int hu em d, Sem.run_pure]
    exact ih (fun y hy => each y (by simp [hy]))
theorem chk_struct {T : TypeId} {fs : Array Field} (hT : P.underlying T = some (.struct fs)) (hf : cmpF P 0 fs.toList = true) {x : List Int} (hx : fs.toList.length = x.length) (em : Bool) (d : Nat) (w : World) :
    (Instr.checkKey em (d + 2) T (.agg (i64s x))).run P w = .ok () w := by
  rw [show d + 2 = (d + 1) + 1 from rfl, Instr.checkKey]
  simp only [Sem.run_bind, run_underlying hT, Result.andThen_ok]
  rw [← Array.forIn_toList]
  have go : ∀ (L : List Field) (k : Nat), cmpF P k L = true → k + L.length = x.length → ∀ f ∈ L, f.name ≠ "_" ∧ P.underlying f.type = some (.int .i64) ∧ f.offset < x.length := by
    intro L
    induction L with
    | nil => intro k _ _ f hf; cases hf
    | cons g L ih =>
      intro k h hl f hf
      simp only [cmpF, Bool.and_eq_true, bne_iff_ne, ne_eq] at h
      obtain ⟨⟨⟨h1, h2⟩, h3⟩, h4⟩ := h
      simp only [List.length_cons] at hl
      rcases List.mem_cons.1 hf with rfl | hf
      · exact ⟨h1, intT h2, by rw [Nat.eq_of_beq_eq_true h3]; omega⟩
      · exact ih (k + 1) h4 (by omega) f hf
  have each := go fs.toList 0 hf (by omega)
  clear go hf hx hT
  generalize fs.toList = L at each
  induction L with
  | nil => simp
  | cons f L ih =>
    obtain ⟨hn, hu, ho⟩ := each f (by simp)
    have hp : P.plainKey f.type = true := by simp [Program.plainKey, hu]
    have p1 := run_part_plain w hp (i64s_get (x := x) (k := f.offset) ho)
    simp only [List.forIn_cons, Sem.run_bind, hn, ne_eq, not_false_eq_true, if_true, Result.andThen_ok, p1, chk_int hu em d, Sem.run_pure]
    exact ih (fun y hy => each y (by simp [hy]))
/-- The keys of a type, as a program's tables say. -/
def keyC (P : Program) (K : TypeId) (τ : Ty) : Bool := match τ with
  | .int => i64C P K
  | .two => cmpC P (K, 2)
  | .tup n => cmpC P (K, n)
  | _ => false
where i64C (P : Program) (t : TypeId) : Bool := match P.underlying t with
  | some (.int .i64) => true
  | _ => false
theorem cmpC_chk {K : TypeId} {n : Nat} (h : cmpC P (K, n) = true) {x : List Int} (hx : x.length = n) (em : Bool) (w : World) : (Instr.checkKey em 10000 K (.agg (i64s x))).run P w = .ok () w ∧ (match P.underlying K with | some (.array _ _) | some (.struct _) => true | _ => false) = true := by
  simp only [cmpC, Bool.and_eq_true, Bool.not_eq_true'] at h
  obtain ⟨hg, h⟩ := h
  split at h
  · rename_i fs hu
    simp only [Bool.and_eq_true, Bool.not_eq_true'] at h
    obtain ⟨⟨h1, h2⟩, h3⟩ := h
    exact ⟨chk_struct hu h2 (by rw [Nat.eq_of_beq_eq_true h3, hx]) em 9998 w, by rw [hu]⟩
  · rename_i m e hu
    simp only [Bool.and_eq_true] at h
    obtain ⟨⟨h1, h2⟩, h3⟩ := h
    refine ⟨chk_array hu (intT h2) ?_ (by rw [hx, Nat.eq_of_beq_eq_true h1]) em 9998 w, by rw [hu]⟩
    split at h3
    · rename_i i hi
      rw [hi]
      exact congrArg some (Nat.eq_of_beq_eq_true h3)
    · cases h3
  · cases h
theorem keyC_ok {K : TypeId} {τ : Ty} (h : keyC P K τ = true) : KeyT P K τ := by
  cases τ with
  | int => exact key_int (intT h)
  | bool => cases h
  | sl _ => cases h
  | val => cases h
  | two =>
    have h' : cmpC P (K, 2) = true := h
    refine ⟨rfl, fun x em w => (cmpC_chk h' (x := [x.1, x.2]) rfl em w).1, fun x ys w => ?_⟩
    rw [run_findKey_eq w (cmpC_chk h' (x := [x.1, x.2]) rfl true w).2]
    exact findAsk_agg (τ := .two) (cmpC_ok h') (fun _ => rfl) (fun _ => rfl) x w ys 0
  | tup n =>
    have h' : cmpC P (K, n) = true := h
    have hl : ∀ x : (Ty.tup n).T, (keyL (.tup n) x).length = n := fun x => by simp [keyL]
    refine ⟨rfl, fun x em w => (cmpC_chk h' (hl x) em w).1, fun x ys w => ?_⟩
    rw [run_findKey_eq w (cmpC_chk h' (hl x) true w).2]
    exact findAsk_agg (τ := .tup n) (cmpC_ok h') hl (fun _ => rfl) x w ys 0

/-! ### A map of one's own -/

/-- A type of maps whose values are ints. -/
def MapT (P : Program) (T K : TypeId) : Prop := ∃ E i, P.underlying T = some (.map K E) ∧ P.info? E = some i ∧ i.zero = some (.int .i64 0)
def mapC (P : Program) (q : TypeId × TypeId) : Bool := match P.underlying q.1 with
  | some (.map K E) => Nat.beq K q.2 && (match P.info? E with
    | some i => (match i.zero with
      | some (.int .i64 0) => true
      | _ => false)
    | none => false)
  | _ => false
theorem mapC_ok {q : TypeId × TypeId} (h : mapC P q = true) : MapT P q.1 q.2 := by
  unfold mapC at h
  split at h
  · rename_i K E hu
    simp only [Bool.and_eq_true] at h
    obtain ⟨h1, h2⟩ := h
    split at h2
    · rename_i i hi
      split at h2
      · rename_i hz
        exact ⟨E, i, by rw [hu, Nat.eq_of_beq_eq_true h1], hi, hz⟩
      · cases h2
    · cases h2
  · cases h
def mapR (τ : Ty) (ys : List τ.T) (w : World) (x : Value) (f : List Nat) : Prop := ∃ r, x = .map (some r) ∧ f = [r] ∧ w.heap[r]? = some (.map (entsF τ 0 ys).toArray ys.length)
theorem mapR_stays {τ : Ty} {ys : List τ.T} {x : Value} {f : List Nat} (w₁ w₂ : World) (hb : ∀ b ∈ f, w₂.heap[b]? = w₁.heap[b]?) (h : mapR τ ys w₁ x f) : mapR τ ys w₂ x f := by
  obtain ⟨r, rfl, rfl, h⟩ := h
  exact ⟨r, rfl, rfl, by rw [hb r (by simp)]; exact h⟩
section
variable {C : Ctx} {ρ : Operand → Option AV} {H : List Ob} {d : Option Nat} {t : TypeId} {p : String} {af : Array Edge} {g : Option (Nat × Bool)}
theorem VStep.makeMap {T : TypeId} (τ : Ty) : VStep P C ⟨d, .makeMap T none, t, p, af, g⟩ ρ H (.ob H.length) (H ++ [.cust (mapR τ [])]) := fun σ w V F m _ => by
  obtain ⟨m', e'⟩ := m.push (w' := w.alloc (.map #[] 0)) (.cust (mapR τ [])) [w.heap.size] (.map (some w.heap.size)) rfl rfl rfl rfl (by simp) (fun b hb => Below.heap_alloc w _ b hb) (fun b hb => by simp at hb; subst hb; simp)
    (fun _ => by unfold ORep; exact ⟨fun w₁ w₂ => mapR_stays w₁ w₂, _, rfl, rfl, (MapKept.heap_alloc w _).1⟩)
  refine .inl ⟨.map (some w.heap.size), _, .inl (by simp [execOp, run_makeMap]), _, _, m', e', ?_⟩
  unfold VRep
  simp [← m.lenV]
theorem run_equal_map {xT K E : TypeId} (hT : P.underlying xT = some (.map K E)) (r : Option Nat) (w : World) : (Op.equal xT (.map r) (.map none)).run P w = .ok r.isNone w := by
  have h : ∀ d : Nat, (Op.equalIn (d + 1) xT (.map r) (.map none)).run P w = .ok r.isNone w := fun d => by
    cases r <;> simp [Op.equalIn, run_underlying hT]
  exact h 9999
theorem binOp_map {xT : TypeId} (r : Option Nat) : binOp .eql xT (.map r) (.map none) = (do pure (.bool (← Op.equal xT (.map r) (.map none)))) := rfl
theorem VStep.mapNilN {xT yT : TypeId} {x y : Operand} {K E : TypeId} (hx : ρ x = some (.v (.map none))) (hy : ρ y = some (.v (.map none))) (hT : P.underlying xT = some (.map K E)) : VStep P C ⟨d, .binOp .eql xT x y yT, t, p, af, g⟩ ρ H (bv true) H :=
  .bin hx hy (fun w => by simp [eqGuard]) fun w => by rw [binOp_map]; simp [run_equal_map hT]
theorem VStep.mapNilO {xT yT : TypeId} {x y : Operand} {K E : TypeId} {τ : Ty} {ys : List τ.T} {i : Nat} (hx : ρ x = some (.ob i)) (hH : H[i]? = some (.cust (mapR τ ys))) (hy : ρ y = some (.v (.map none))) (hT : P.underlying xT = some (.map K E)) : VStep P C ⟨d, .binOp .eql xT x y yT, t, p, af, g⟩ ρ H (bv false) H :=
  .same fun σ w V F m h => by
    have e1 := h x (by simp [Op.operands]) _ hx
    have e2 := VRep.v_iff.1 (h y (by simp [Op.operands]) _ hy)
    obtain ⟨u, f, hu, _, ho⟩ := m.get hH
    unfold VRep at e1
    rw [hu] at e1
    cases e1
    unfold ORep at ho
    obtain ⟨_, r, hr, _⟩ := ho
    refine ⟨.bool false, ?_, VRep.v_iff.2 rfl⟩
    have hg : (eqGuard .eql xT x y (.map (some r)) (.map none)).run P w = .ok () w := by simp [eqGuard]
    have hb : (binOp .eql xT (.map (some r)) (.map none)).run P w = .ok (.bool false) w := by rw [binOp_map]; simp [run_equal_map hT]
    simp [execOp, hr, e2, hg, hb]
theorem VStep.lookup {T K : TypeId} {x k : Operand} {τ : Ty} {ys : List τ.T} {q : τ.T} {i : Nat} (hx : ρ x = some (.ob i)) (hH : H[i]? = some (.cust (mapR τ ys))) (hk : ρ k = some (kAV τ q)) (hT : MapT P T K) (hK : KeyT P K τ) :
    VStep P C ⟨d, .lookup T x k true, t, p, af, g⟩ ρ H (.tup [iv (((idxK τ q ys 0).getD 0 : Nat) : Int), bv (idxK τ q ys 0).isSome]) H :=
  .same fun σ w V F m h => ⟨.tuple #[.int .i64 (((idxK τ q ys 0).getD 0 : Nat) : Int), .bool (idxK τ q ys 0).isSome], by
    have e1 := h x (by simp [Op.operands]) _ hx
    have e2 := kAV_is hK.keyed (h k (by simp [Op.operands]) _ hk)
    obtain ⟨u, f, hu, _, ho⟩ := m.get hH
    unfold VRep at e1
    rw [hu] at e1
    cases e1
    unfold ORep at ho
    obtain ⟨_, r, hr, _, hb⟩ := ho
    obtain ⟨E, ti, hu, hi, hz⟩ := hT
    have hf := hK.find q ys w
    simp only [execOp, hr, e2, Instr.lookup, Sem.run_bind, run_underlying hu, Result.andThen_ok, MapKept.run_getObj_map hb, hK.chk, hf, Sem.run_pure]
    cases idxK τ q ys 0 with
    | none => simp [zeroValue, typeInfo, hi, hz]
    | some j => simp, by
    unfold VRep VReps VReps VReps
    exact ⟨_, rfl, _, _, rfl, VRep.v_iff.2 rfl, _, _, rfl, VRep.v_iff.2 rfl, rfl⟩⟩
theorem VStep.mapUpdate {T K : TypeId} {x k v : Operand} {τ : Ty} {ys : List τ.T} {q : τ.T} {i : Nat} (hx : ρ x = some (.ob i)) (hH : H[i]? = some (.cust (mapR τ ys))) (hk : ρ k = some (kAV τ q)) (hv : ρ v = some (iv (ys.length : Int))) (hT : MapT P T K) (hK : KeyT P K τ) (hn : idxK τ q ys 0 = none) :
    VStep P C ⟨d, .mapUpdate T x k v, t, p, af, g⟩ ρ H (.v undef) (H.set i (.cust (mapR τ (ys ++ [q])))) := fun σ w V F m hρ => by
  have e1 := hρ x (by simp [Op.operands]) _ hx
  have e2 := kAV_is hK.keyed (hρ k (by simp [Op.operands]) _ hk)
  have e3 := VRep.v_iff.1 (hρ v (by simp [Op.operands]) _ hv)
  obtain ⟨u, f, hu, hf, ho⟩ := m.get hH
  unfold VRep at e1
  rw [hu] at e1
  cases e1
  unfold ORep at ho
  obtain ⟨_, r, hr, hfr, hb⟩ := ho
  subst hfr
  obtain ⟨E, ti, hU, hi, hz⟩ := hT
  have hfi := hK.find q ys w
  rw [hn] at hfi
  have hlt : r < w.heap.size := (Array.getElem?_eq_some_iff.1 hb).1
  obtain ⟨h1, h2⟩ := MapKept.heap_set (o' := .map ((entsF τ 0 ys).toArray.push ⟨kv τ q, .int .i64 (ys.length : Int), ys.length⟩) (ys.length + 1)) hb
  obtain ⟨m', e'⟩ := m.set (w' := { w with heap := w.heap.setIfInBounds r (.map ((entsF τ 0 ys).toArray.push ⟨kv τ q, .int .i64 (ys.length : Int), ys.length⟩) (ys.length + 1)) }) i (.cust (mapR τ (ys ++ [q]))) [r] [r] (σ x) hu hf rfl rfl rfl (by simp)
    (fun b _ hb => h2 b (by simpa using hb)) (fun b hb => by simp at hb; subst hb; exact ⟨by simpa using hlt, .inl (by simp)⟩)
    (fun _ => by
      unfold ORep
      refine ⟨fun w₁ w₂ => mapR_stays w₁ w₂, r, hr, rfl, ?_⟩
      rw [h1, entsF_app]
      simp)
  refine .inl ⟨undef, _, .inr ⟨?_, rfl⟩, _, _, m', e', VRep.v_iff.2 rfl⟩
  simp only [execOp, hr, e2, e3, Instr.mapUpdate, Sem.run_bind, run_underlying hU, Result.andThen_ok, MapKept.run_getObj_map hb, hK.chk, hfi, Option.map_none, MapKept.run_setObj_map _ hb, Sem.run_pure]
end
end
end Go.Qw
