/-
  Maps that count: the steps as the finer machine takes them. No program is named here.
-/
import Derived.Test.YtmeacgkhabnjlaaDoorQwMc
set_option linter.unusedSimpArgs false
set_option linter.unusedVariables false
set_option linter.unusedSectionVars false
namespace Go.Qw
open Go.RowKit

/-- 'm[k]': what is there, or 0. -/
theorem VStep.lookupC {P : Program} {C : Ctx} {ρ : Operand → Option AV} {H : List Ob} {d : Option Nat} {t : TypeId} {p : String} {af : Array Edge} {g : Option (Nat × Bool)} {T K : TypeId} {x k : Operand} {n : Nat} {ys : List CE} {q : List Int} {i : Nat} (hx : ρ x = some (.ob i)) (hH : H[i]? = some (.cust (mapCR n ys))) (hk : ρ k = some (kAV (.tup n) q)) (hT : MapT P T K) (hK : KeyN P K n) :
    VStep P C ⟨d, .lookup T x k false, t, p, af, g⟩ ρ H (iv (valC n q ys)) H :=
  .same fun σ w V F m h => ⟨.int .i64 (valC n q ys), by
    have e1 := h x (by simp [Op.operands]) _ hx
    have e2 := kAV_is (τ := .tup n) rfl (h k (by simp [Op.operands]) _ hk)
    obtain ⟨u, f, hu, _, ho⟩ := m.get hH
    unfold VRep at e1
    rw [hu] at e1
    cases e1
    unfold ORep at ho
    obtain ⟨_, r, hr, _, hb⟩ := ho
    obtain ⟨E, ti, hu, hi, hz⟩ := hT
    have hf := hK.find q ys w
    simp only [execOp, hr, e2, Instr.lookup, Sem.run_bind, run_underlying hu, Result.andThen_ok, MapKept.run_getObj_map hb, hK.chk, hf, Sem.run_pure]
    unfold valC
    cases findC n q ys 0 with
    | none => simp [zeroValue, typeInfo, hi, hz]
    | some j => simp, VRep.v_iff.2 rfl⟩
section
variable {P : Program} {C : Ctx} {tb : Tab} {fr : DF} {H : List OD} {d : Option Nat} {t : TypeId} {p : String} {af : Array Edge} {g : Option (Nat × Bool)}
theorem StepD.makeMapC {T : TypeId} (n : Nat) : StepD P C tb fr ⟨d, .makeMap T none, t, p, af, g⟩ H (.ob (lenOD H)) (H ++ [.cust (mapCR n [])]) := fun ρA _ => by
  have := VStep.makeMapC (P := P) (C := C) (ρ := ρA) (H := H.map OD.ob) (d := d) (t := t) (p := p) (af := af) (g := g) (T := T) n
  rw [List.map_append]
  rw [← lenOD_map] at this
  exact this
theorem StepD.mapEntryC {T K : TypeId} {x k : Operand} {n : Nat} {ys : List CE} {q : List Int} {i : Nat} (hT : MapT P T K) (hK : KeyN P K n) (hx : evS tb.E fr x = some (.ob i)) (hH : getOD H i = some (.cust (mapCR n ys))) (hk : evS tb.E fr k = some (kD (.tup n) q)) :
    StepD P C tb fr ⟨d, .mapEntry T x k, t, p, af, g⟩ H (.tup [.i (valC n q ys), .i ((placeC n q ys : Nat) : Int)]) (setOD H i (.cust (mapCR n (touchC n q ys)))) := fun _ hρ => by
  rw [setOD_map]
  exact VStep.mapEntry (hρ.1 _ _ hx) (getOD_map hH) (by rw [hρ.1 _ _ hk, kD_av (.tup n) q rfl]) hT hK
theorem StepD.entryStoreC {T : TypeId} {x s v : Operand} {n : Nat} {ys : List CE} {k i : Nat} {a b : Int} (hk : k < ys.length) (hx : evS tb.E fr x = some (.ob i)) (hH : getOD H i = some (.cust (mapCR n ys))) (hs : evS tb.E fr s = some (.i b)) (hb : b = (k : Int)) (hv : evS tb.E fr v = some (.i a)) :
    StepD P C tb fr ⟨d, .entryStore T x s v, t, p, af, g⟩ H (.u undef) (setOD H i (.cust (mapCR n (ys.set k ((ys.getD k ([], 0)).1, a))))) := fun _ hρ => by
  rw [setOD_map]
  subst hb
  exact VStep.entryStore (hρ.1 _ _ hx) (getOD_map hH) (hρ.1 _ _ hs) (hρ.1 _ _ hv) hk
theorem StepD.rangeC {T K : TypeId} {x : Operand} {n : Nat} {ys : List CE} {i : Nat} (hT : MapT P T K) (hx : evS tb.E fr x = some (.ob i)) (hH : getOD H i = some (.cust (mapCR n ys))) :
    StepD P C tb fr ⟨d, .range T x, t, p, af, g⟩ H (.ob (lenOD H)) (setOD H i .dead ++ [.cust (iterR n ys [])]) := fun _ hρ => by
  rw [List.map_append, setOD_map, lenOD_map]
  exact VStep.rangeM (hρ.1 _ _ hx) (getOD_map hH) hT
theorem StepD.entryC {x : Operand} {n : Nat} {ys : List CE} {seen : List Nat} {i j : Nat} {y : CE} (hy : ys[j]? = some y) (hx : evS tb.E fr x = some (.ob i)) (hH : getOD H i = some (.cust (iterR n ys (seen ++ [j])))) :
    StepD P C tb fr ⟨d, .entry x, t, p, af, g⟩ H (.tup [.any, .i y.2]) H := fun _ hρ => VStep.entryM (hρ.1 _ _ hx) (getOD_map hH) hy
theorem StepD.lookupC {T K : TypeId} {x k : Operand} {n : Nat} {ys : List CE} {q : List Int} {i : Nat} (hT : MapT P T K) (hK : KeyN P K n) (hx : evS tb.E fr x = some (.ob i)) (hH : getOD H i = some (.cust (mapCR n ys))) (hk : evS tb.E fr k = some (kD (.tup n) q)) :
    StepD P C tb fr ⟨d, .lookup T x k false, t, p, af, g⟩ H (.i (valC n q ys)) H := fun _ hρ =>
  VStep.lookupC (hρ.1 _ _ hx) (getOD_map hH) (by rw [hρ.1 _ _ hk, kD_av (.tup n) q rfl]) hT hK
theorem findC_app {n : Nat} {x : List Int} {z : CE} : ∀ {ys : List CE} {k : Nat}, findC n x (ys ++ [z]) k = match findC n x ys k with
    | some q => some q
    | none => if keyL (.tup n) x = keyL (.tup n) z.1 then some (k + ys.length, z.2) else none
  | [], k => by simp [findC]
  | y :: ys, k => by
    rw [List.cons_append, findC, findC, findC_app (ys := ys) (k := k + 1)]
    by_cases he : keyL (.tup n) x = keyL (.tup n) y.1
    · rw [if_pos he, if_pos he]
    · rw [if_neg he, if_neg he]
      cases findC n x ys (k + 1) with
      | some q => rfl
      | none => simp only [List.length_cons]; rw [show k + 1 + ys.length = k + (ys.length + 1) by omega]
/-- Laid in or not, the key's value is the same. -/
theorem valC_touch {n : Nat} {q : List Int} {ys : List CE} : valC n q (touchC n q ys) = valC n q ys := by
  unfold touchC
  cases h : findC n q ys 0 with
  | some z => rfl
  | none =>
    unfold valC
    simp only
    rw [findC_app, h]
    simp
/-- A key of as many ints. -/
theorem keyL_self {n : Nat} {q : List Int} (hq : q.length = n) : keyL (.tup n) q = q := by
  show (List.range n).map (fun i => q.getD i 0) = q
  refine List.ext_getElem (by simp [hq]) fun k h1 h2 => ?_
  simp [List.getD, h2]
/-- What is behind a key that was counted. -/
def bumpC (q : List Int) : List CE → List CE
  | [] => [(q, 1)]
  | y :: ys => if q = y.1 then (y.1, y.2 + 1) :: ys else y :: bumpC q ys
theorem find_bump {n : Nat} {q : List Int} (hq : q.length = n) : ∀ {ys : List CE} (k : Nat), (∀ y ∈ ys, y.1.length = n) → match findC n q ys k with
    | some (i, v) => ∃ j, i = k + j ∧ j < ys.length ∧ v = (ys.getD j ([], 0)).2 ∧ ys.set j ((ys.getD j ([], 0)).1, v + 1) = bumpC q ys
    | none => ys ++ [(q, 1)] = bumpC q ys
  | [], _, _ => rfl
  | y :: ys, k, h => by
    have ih := find_bump hq (ys := ys) (k + 1) fun z hz => h z (List.mem_cons_of_mem _ hz)
    have hy := h y (List.mem_cons_self ..)
    rw [findC, keyL_self hq, keyL_self hy, bumpC]
    by_cases he : q = y.1
    · rw [if_pos he, if_pos he]
      exact ⟨0, rfl, by simp, rfl, rfl⟩
    · rw [if_neg he, if_neg he]
      cases hf : findC n q ys (k + 1) with
      | none => rw [hf] at ih; simp only at ih ⊢; rw [← ih]; rfl
      | some z =>
        obtain ⟨i, v⟩ := z
        rw [hf] at ih
        obtain ⟨j, h1, h2, h3, h4⟩ := ih
        exact ⟨j + 1, by omega, by simp; omega, h3, by rw [← h4]; rfl⟩
theorem bump_is {n : Nat} {q : List Int} {ys : List CE} (hq : q.length = n) (h : ∀ y ∈ ys, y.1.length = n) {a : Int} (ha : a = valC n q ys + 1) :
    (touchC n q ys).set (placeC n q ys) (((touchC n q ys).getD (placeC n q ys) ([], 0)).1, a) = bumpC q ys := by
  subst ha
  have := find_bump hq 0 h
  unfold touchC placeC valC
  cases hf : findC n q ys 0 with
  | none =>
    rw [hf] at this
    simp only at this ⊢
    rw [← this, List.set_append]
    simp
  | some z =>
    obtain ⟨i, v⟩ := z
    rw [hf] at this
    obtain ⟨j, h1, h2, h3, h4⟩ := this
    have : i = j := by omega
    subst this
    exact h4
theorem bump_lens {n : Nat} {q : List Int} (hq : q.length = n) : ∀ {ys : List CE}, (∀ y ∈ ys, y.1.length = n) → ∀ y ∈ bumpC q ys, y.1.length = n
  | [], _, y, hy => by simp only [bumpC, List.mem_singleton] at hy; rw [hy]; exact hq
  | z :: ys, h, y, hy => by
    unfold bumpC at hy
    split at hy
    · rcases List.mem_cons.1 hy with rfl | hy
      · exact h z (List.mem_cons_self ..)
      · exact h y (List.mem_cons_of_mem _ hy)
    · rcases List.mem_cons.1 hy with rfl | hy
      · exact h y (List.mem_cons_self ..)
      · exact bump_lens hq (fun a ha => h a (List.mem_cons_of_mem _ ha)) y hy
end
end Go.Qw
