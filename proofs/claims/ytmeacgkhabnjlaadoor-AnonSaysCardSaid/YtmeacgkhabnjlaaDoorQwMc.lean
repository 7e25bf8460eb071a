/-
  Maps that count: keys that are arrays of ints, ints under them; an entry looked up for 'm[k]++', written; a range over such a map in whatever order. No program is named here.
-/
import Derived.Test.YtmeacgkhabnjlaaDoorQwQ
import Derived.Maps.RangeRun
import Derived.WideKeyEntry
set_option linter.unusedSimpArgs false
set_option linter.unusedVariables false
set_option linter.unusedSectionVars false
namespace Go.Qw
open Go.RowKit
open Go.ChangeMaps (setBlock)

/-! ### Entries -/

abbrev CE := List Int × Int
def entsC (n : Nat) : Nat → List CE → List MapEntry
  | _, [] => []
  | k, y :: ys => ⟨kv (.tup n) y.1, .int .i64 y.2, k⟩ :: entsC n (k + 1) ys
theorem entsC_len (n : Nat) : ∀ (ys : List CE) (k : Nat), (entsC n k ys).length = ys.length
  | [], _ => rfl
  | y :: ys, k => by rw [entsC, List.length_cons, List.length_cons, entsC_len n ys (k + 1)]
theorem entsC_app (n : Nat) (q : CE) : ∀ (ys : List CE) (k : Nat), entsC n k (ys ++ [q]) = entsC n k ys ++ [⟨kv (.tup n) q.1, .int .i64 q.2, k + ys.length⟩]
  | [], k => by simp [entsC]
  | y :: ys, k => by
    simp only [List.cons_append, entsC, entsC_app n q ys (k + 1), List.length_cons]
    rw [show k + 1 + ys.length = k + (ys.length + 1) by omega]
theorem entsC_get (n : Nat) : ∀ (ys : List CE) (k i : Nat), (entsC n k ys)[i]? = (ys[i]?).map fun y => ⟨kv (.tup n) y.1, .int .i64 y.2, k + i⟩
  | [], _, _ => rfl
  | y :: ys, k, 0 => by simp [entsC]
  | y :: ys, k, i + 1 => by
    rw [entsC, List.getElem?_cons_succ, List.getElem?_cons_succ, entsC_get n ys (k + 1) i]
    rw [show k + 1 + i = k + (i + 1) by omega]
theorem entsC_set (n : Nat) (ys : List CE) (i : Nat) (q : CE) : entsC n 0 (ys.set i q) = (entsC n 0 ys).set i ⟨kv (.tup n) q.1, .int .i64 q.2, i⟩ := by
  apply List.ext_getElem?
  intro j
  rw [entsC_get, List.getElem?_set, List.getElem?_set, entsC_get, entsC_len]
  by_cases hij : i = j
  · subst hij
    rw [if_pos rfl, if_pos rfl]
    split <;> simp
  · rw [if_neg hij, if_neg hij]
theorem entsC_born (n : Nat) (ys : List CE) : ∀ e ∈ entsC n 0 ys, e.born < ys.length := fun e he => by
  obtain ⟨i, hi⟩ := List.getElem?_of_mem he
  rw [entsC_get] at hi
  cases h : ys[i]? with
  | none => rw [h] at hi; cases hi
  | some y =>
    rw [h] at hi
    cases hi
    have := (List.getElem?_eq_some_iff.1 h).1
    show 0 + i < _
    omega
theorem entsC_borns (n : Nat) (ys : List CE) : ((entsC n 0 ys).map (·.born)).Nodup := by
  have : (entsC n 0 ys).map (·.born) = List.range ys.length := by
    apply List.ext_getElem?
    intro i
    rw [List.getElem?_map, entsC_get]
    by_cases h : i < ys.length
    · rw [List.getElem?_eq_getElem h, List.getElem?_range h]; simp
    · rw [List.getElem?_eq_none (by omega), List.getElem?_eq_none (by simp; omega)]; rfl
  rw [this]
  exact List.nodup_range

/-! ### The place of a key -/

/-- The place, and what is there. -/
def findC (n : Nat) (x : List Int) : List CE → Nat → Option (Nat × Int)
  | [], _ => none
  | y :: ys, k => if keyL (.tup n) x = keyL (.tup n) y.1 then some (k, y.2) else findC n x ys (k + 1)
theorem findC_some {n : Nat} {x : List Int} : ∀ {ys : List CE} {k i : Nat} {v : Int}, findC n x ys k = some (i, v) → ∃ j y, i = k + j ∧ ys[j]? = some y ∧ y.2 = v ∧ keyL (.tup n) x = keyL (.tup n) y.1
  | [], _, _, _, h => by cases h
  | y :: ys, k, i, v, h => by
    rw [findC] at h
    by_cases he : keyL (.tup n) x = keyL (.tup n) y.1
    · rw [if_pos he] at h
      cases h
      exact ⟨0, y, rfl, rfl, rfl, he⟩
    · rw [if_neg he] at h
      obtain ⟨j, z, h1, h2, h3, h4⟩ := findC_some h
      exact ⟨j + 1, z, by omega, h2, h3, h4⟩
structure KeyN (P : Program) (K : TypeId) (n : Nat) : Prop where
  chk : ∀ (x : List Int) (em : Bool) (w : World), (Instr.checkKey em 10000 K (kv (.tup n) x)).run P w = .ok () w
  find : ∀ (x : List Int) (ys : List CE) (w : World), (Instr.findKey K (kv (.tup n) x) (entsC n 0 ys)).run P w = .ok ((findC n x ys 0).map fun q => (q.1, .int .i64 q.2)) w
theorem findAsk_C {P : Program} {K : TypeId} {n : Nat} (hT : EqT P K n) (x : List Int) (w : World) : ∀ (ys : List CE) (k : Nat), (Instr.findAsking K (kv (.tup n) x) (entsC n k ys) k).run P w = .ok ((findC n x ys k).map fun q => (q.1, .int .i64 q.2)) w
  | [], k => by simp [entsC, Instr.findAsking, findC]
  | y :: ys, k => by
    have ih := findAsk_C hT x w ys (k + 1)
    have he := hT.2 (keyL (.tup n) x) (keyL (.tup n) y.1) w (by simp [keyL]) (by simp [keyL])
    simp only [entsC, Instr.findAsking, Sem.run_bind, Op.equal, Op.maxDepth, findC]
    rw [show kv (.tup n) x = .agg (i64s (keyL (.tup n) x)) from rfl, show kv (.tup n) y.1 = .agg (i64s (keyL (.tup n) y.1)) from rfl, he]
    simp only [Result.andThen_ok]
    by_cases h : keyL (.tup n) x = keyL (.tup n) y.1
    · simp [h]
    · rw [show Value.agg (i64s (keyL (.tup n) x)) = kv (.tup n) x from rfl]
      simp only [h, decide_false, Bool.false_eq_true, if_false]
      exact ih
theorem keyN_ok {P : Program} {K : TypeId} {n : Nat} (h : cmpC P (K, n) = true) : KeyN P K n :=
  ⟨fun x em w => (cmpC_chk h (x := keyL (.tup n) x) (by simp [keyL]) em w).1, fun x ys w => by
    rw [run_findKey_eq w (cmpC_chk h (x := keyL (.tup n) x) (by simp [keyL]) true w).2]
    exact findAsk_C (cmpC_ok h) x w ys 0⟩
theorem same_agg (xs : List Int) : Instr.sameBits 10000 (.agg (i64s xs)) (.agg (i64s xs)) = true := by
  have : ∀ l : List Value, (∀ v ∈ l, ∃ n, v = .int .i64 n) → (l.zip l).all (fun (x, y) => Instr.sameBits 9999 x y) = true := by
    intro l
    induction l with
    | nil => intro _; rfl
    | cons a l ih =>
      intro h
      obtain ⟨n, rfl⟩ := h a (List.mem_cons_self ..)
      rw [List.zip_cons_cons, List.all_cons, ih fun v hv => h v (List.mem_cons_of_mem _ hv)]
      simp [Instr.sameBits]
  rw [Instr.sameBits]
  rw [this _ fun v hv => ?_]
  · simp
  · unfold i64s at hv
    simp at hv
    obtain ⟨n, _, rfl⟩ := hv
    exact ⟨n, rfl⟩

/-! ### The map as an object -/

def mapCR (n : Nat) (ys : List CE) (w : World) (x : Value) (f : List Nat) : Prop := ∃ r, x = .map (some r) ∧ f = [r] ∧ w.heap[r]? = some (.map (entsC n 0 ys).toArray ys.length)
theorem mapCR_stays {n : Nat} {ys : List CE} {x : Value} {f : List Nat} (w₁ w₂ : World) (hb : ∀ b ∈ f, w₂.heap[b]? = w₁.heap[b]?) (h : mapCR n ys w₁ x f) : mapCR n ys w₂ x f := by
  obtain ⟨r, rfl, rfl, h⟩ := h
  exact ⟨r, rfl, rfl, by rw [hb r (by simp)]; exact h⟩
/-- A range over it: which entries were met. -/
def iterR (n : Nat) (ys : List CE) (seen : List Nat) (w : World) (x : Value) (f : List Nat) : Prop :=
  ∃ r it, x = .pointer (some ⟨it, 0, none⟩) ∧ f = [r, it] ∧ r ≠ it ∧ w.heap[r]? = some (.map (entsC n 0 ys).toArray ys.length) ∧ w.heap[it]? = some (.mapIter (some r) ys.length seen.toArray ys.length)
theorem iterR_stays {n : Nat} {ys : List CE} {seen : List Nat} {x : Value} {f : List Nat} (w₁ w₂ : World) (hb : ∀ b ∈ f, w₂.heap[b]? = w₁.heap[b]?) (h : iterR n ys seen w₁ x f) : iterR n ys seen w₂ x f := by
  obtain ⟨r, it, rfl, rfl, hne, h1, h2⟩ := h
  exact ⟨r, it, rfl, rfl, hne, by rw [hb r (by simp)]; exact h1, by rw [hb it (by simp)]; exact h2⟩
/-- With the key laid in, if it was not there; its place. -/
def touchC (n : Nat) (x : List Int) (ys : List CE) : List CE := match findC n x ys 0 with
  | some _ => ys
  | none => ys ++ [(x, 0)]
def placeC (n : Nat) (x : List Int) (ys : List CE) : Nat := match findC n x ys 0 with
  | some q => q.1
  | none => ys.length
def valC (n : Nat) (x : List Int) (ys : List CE) : Int := match findC n x ys 0 with
  | some q => q.2
  | none => 0
theorem placeC_lt (n : Nat) (x : List Int) (ys : List CE) : placeC n x ys < (touchC n x ys).length := by
  unfold placeC touchC
  cases h : findC n x ys 0 with
  | none => simp
  | some q =>
    obtain ⟨i, v⟩ := q
    obtain ⟨j, y, h1, h2, _⟩ := findC_some h
    have := (List.getElem?_eq_some_iff.1 h2).1
    show i < ys.length
    omega
section
variable {P : Program} {C : Ctx} {ρ : Operand → Option AV} {H : List Ob} {d : Option Nat} {t : TypeId} {p : String} {af : Array Edge} {g : Option (Nat × Bool)}
theorem VStep.makeMapC {T : TypeId} (n : Nat) : VStep P C ⟨d, .makeMap T none, t, p, af, g⟩ ρ H (.ob H.length) (H ++ [.cust (mapCR n [])]) := fun σ w V F m _ => by
  obtain ⟨m', e'⟩ := m.push (w' := w.alloc (.map #[] 0)) (.cust (mapCR n [])) [w.heap.size] (.map (some w.heap.size)) rfl rfl rfl rfl (by simp) (fun b hb => Below.heap_alloc w _ b hb) (fun b hb => by simp at hb; subst hb; simp)
    (fun _ => by unfold ORep; exact ⟨fun w₁ w₂ => mapCR_stays w₁ w₂, _, rfl, rfl, (MapKept.heap_alloc w _).1⟩)
  refine .inl ⟨.map (some w.heap.size), _, .inl (by simp [execOp, run_makeMap]), _, _, m', e', ?_⟩
  unfold VRep
  simp [← m.lenV]
/-- The object in the block of a map is told anew. -/
theorem mapC_put {V : List Value} {F : List (List Nat)} {w : World} (m : Mem C H V F w) {n i r : Nat} {ys zs : List CE} {es : Array MapEntry} {c : Nat} {u : Value} (hu : V[i]? = some u) (hf : F[i]? = some [r]) (hur : u = .map (some r)) (hb : w.heap[r]? = some (.map (entsC n 0 ys).toArray ys.length)) (he : es = (entsC n 0 zs).toArray) (hc : c = zs.length) :
    Mem C (H.set i (.cust (mapCR n zs))) V (F.set i [r]) { w with heap := w.heap.setIfInBounds r (.map es c) } ∧ Ext C V F w V (F.set i [r]) { w with heap := w.heap.setIfInBounds r (.map es c) } := by
  subst he hc
  have hlt : r < w.heap.size := (Array.getElem?_eq_some_iff.1 hb).1
  obtain ⟨h1, h2⟩ := MapKept.heap_set (o' := .map (entsC n 0 zs).toArray zs.length) hb
  exact m.set (w' := { w with heap := w.heap.setIfInBounds r (.map (entsC n 0 zs).toArray zs.length) }) i (.cust (mapCR n zs)) [r] [r] u hu hf rfl rfl rfl (by simp)
    (fun b _ hb => h2 b (by simpa using hb)) (fun b hb => by simp at hb; subst hb; exact ⟨by simpa using hlt, .inl (by simp)⟩)
    (fun _ => by unfold ORep; exact ⟨fun w₁ w₂ => mapCR_stays w₁ w₂, r, hur, rfl, h1⟩)
theorem VStep.mapEntry {T K : TypeId} {x k : Operand} {n : Nat} {ys : List CE} {q : List Int} {i : Nat} (hx : ρ x = some (.ob i)) (hH : H[i]? = some (.cust (mapCR n ys))) (hk : ρ k = some (kAV (.tup n) q)) (hT : MapT P T K) (hK : KeyN P K n) :
    VStep P C ⟨d, .mapEntry T x k, t, p, af, g⟩ ρ H (.tup [iv (valC n q ys), iv ((placeC n q ys : Nat) : Int)]) (H.set i (.cust (mapCR n (touchC n q ys)))) := fun σ w V F m hρ => by
  have e1 := hρ x (by simp [Op.operands]) _ hx
  have e2 := kAV_is (τ := .tup n) rfl (hρ k (by simp [Op.operands]) _ hk)
  obtain ⟨u, f, hu, hf, ho⟩ := m.get hH
  unfold VRep at e1
  rw [hu] at e1
  cases e1
  unfold ORep at ho
  obtain ⟨_, r, hr, hfr, hb⟩ := ho
  subst hfr
  obtain ⟨E, ti, hU, hi, hz⟩ := hT
  have hfi := hK.find q ys w
  have fin : ∀ (v : Int) (pl : Nat) (w' : World), (Instr.mapEntry T (.map (some r)) (kv (.tup n) q)).run P w = .ok (.tuple #[.int .i64 v, .int .i64 (pl : Int)]) w' → v = valC n q ys → pl = placeC n q ys → (∃ F', Mem C (H.set i (.cust (mapCR n (touchC n q ys)))) V F' w' ∧ Ext C V F w V F' w') →
      Does P C ⟨d, .mapEntry T x k, t, p, af, g⟩ σ (H.set i (.cust (mapCR n (touchC n q ys)))) (.tup [iv (valC n q ys), iv ((placeC n q ys : Nat) : Int)]) V F w := fun v pl w' hrun hv hpl ⟨F', m', e'⟩ => by
    subst hv hpl
    refine .inl ⟨.tuple #[.int .i64 (valC n q ys), .int .i64 ((placeC n q ys : Nat) : Int)], w', .inl (by simp only [execOp, hr, e2, Sem.run_bind, hrun, Result.andThen_ok, Sem.run_pure]), V, F', m', e', ?_⟩
    unfold VRep VReps VReps VReps
    exact ⟨_, rfl, _, _, rfl, VRep.v_iff.2 rfl, _, _, rfl, VRep.v_iff.2 rfl, rfl⟩
  cases h : findC n q ys 0 with
  | none =>
    rw [h] at hfi
    have hm := mapC_put m (zs := ys ++ [(q, 0)]) (es := (entsC n 0 ys).toArray.push ⟨kv (.tup n) q, .int .i64 0, ys.length⟩) (c := ys.length + 1) hu hf hr hb (by rw [entsC_app]; simp) (by simp)
    refine fin 0 ys.length _ ?_ (by unfold valC; rw [h]) (by unfold placeC; rw [h]) ⟨_, ?_, hm.2⟩
    · simp only [Instr.mapEntry, Sem.run_bind, run_underlying hU, Result.andThen_ok, MapKept.run_getObj_map hb, hK.chk, hfi, Option.map_none, zeroValue, typeInfo, hi, hz, MapKept.run_setObj_map _ hb, Sem.run_pure, goInt]
      simp [zeroValue, typeInfo, hi, hz, MapKept.run_setObj_map _ hb]
    · unfold touchC; rw [h]; exact hm.1
  | some z =>
    obtain ⟨j, v⟩ := z
    rw [h] at hfi
    obtain ⟨j', y, h1, h2, h3, h4⟩ := findC_some h
    have hjj : j = j' := by omega
    subst hjj
    have hg : (entsC n 0 ys)[j]? = some ⟨kv (.tup n) y.1, .int .i64 y.2, j⟩ := by rw [entsC_get, h2]; simp
    have hga : (entsC n 0 ys).toArray[j]? = some ⟨kv (.tup n) y.1, .int .i64 y.2, j⟩ := by simpa using hg
    have hkk : kv (.tup n) y.1 = kv (.tup n) q := by
      show Value.agg (i64s (keyL (.tup n) y.1)) = Value.agg (i64s (keyL (.tup n) q))
      rw [h4]
    have hsame : (entsC n 0 ys).toArray.modify j (fun e => { e with key := kv (.tup n) q }) = (entsC n 0 ys).toArray := by
      apply Array.ext'
      rw [Array.toList_modify]
      apply List.ext_getElem?
      intro a
      rw [List.getElem?_modify]
      by_cases ha : j = a
      · subst ha
        simp only [List.toList_toArray, if_true]
        rw [hg]
        simp [hkk]
      · simp [ha]
    have hm := mapC_put m (zs := ys) (es := (entsC n 0 ys).toArray) (c := ys.length) hu hf hr hb rfl rfl
    refine fin v j _ ?_ (by unfold valC; rw [h]) (by unfold placeC; rw [h]) ⟨_, ?_, hm.2⟩
    · have hst : (Instr.keyThatStays (kv (.tup n) q) (kv (.tup n) q)).run P w = .ok (kv (.tup n) q) w := by
        unfold Instr.keyThatStays
        rw [show Instr.sameBits 10000 (kv (.tup n) q) (kv (.tup n) q) = true from same_agg _]
        simp
      simp only [Instr.mapEntry, Sem.run_bind, run_underlying hU, Result.andThen_ok, MapKept.run_getObj_map hb, hK.chk, hfi, Option.map_some, hga, Option.getD_some, hkk, hst, hsame, MapKept.run_setObj_map _ hb, Sem.run_pure, goInt]
    · unfold touchC; rw [h]; exact hm.1
theorem VStep.entryStore {T : TypeId} {x s v : Operand} {n : Nat} {ys : List CE} {k i : Nat} {a : Int} (hx : ρ x = some (.ob i)) (hH : H[i]? = some (.cust (mapCR n ys))) (hs : ρ s = some (iv (k : Int))) (hv : ρ v = some (iv a)) (hk : k < ys.length) :
    VStep P C ⟨d, .entryStore T x s v, t, p, af, g⟩ ρ H (.v undef) (H.set i (.cust (mapCR n (ys.set k ((ys.getD k ([], 0)).1, a))))) := fun σ w V F m hρ => by
  have e1 := hρ x (by simp [Op.operands]) _ hx
  have e2 := VRep.v_iff.1 (hρ s (by simp [Op.operands]) _ hs)
  have e3 := VRep.v_iff.1 (hρ v (by simp [Op.operands]) _ hv)
  obtain ⟨u, f, hu, hf, ho⟩ := m.get hH
  unfold VRep at e1
  rw [hu] at e1
  cases e1
  unfold ORep at ho
  obtain ⟨_, r, hr, hfr, hb⟩ := ho
  subst hfr
  have hg : (entsC n 0 ys)[k]? = some ⟨kv (.tup n) (ys.getD k ([], 0)).1, .int .i64 (ys.getD k ([], 0)).2, k⟩ := by
    rw [entsC_get, List.getElem?_eq_getElem hk]
    simp [List.getD, hk]
  have hidx : (entsC n 0 ys).toArray.findIdx? (fun e => (e.born : Int) == (k : Int)) = some k := by
    have := WideElems.findIdx_born (l := entsC n 0 ys) (entsC_borns n ys) hg
    rw [WideElems.findIdx_arr]
    exact this
  have hmod : (entsC n 0 ys).toArray.modify k (fun e => { e with val := .int .i64 a }) = (entsC n 0 (ys.set k ((ys.getD k ([], 0)).1, a))).toArray := by
    apply Array.ext'
    rw [Array.toList_modify, entsC_set]
    apply List.ext_getElem?
    intro b
    rw [List.getElem?_modify, List.getElem?_set, entsC_len]
    by_cases hkb : k = b
    · subst hkb
      simp only [List.toList_toArray, if_true]
      rw [hg, if_pos hk]
      rfl
    · simp [hkb]
  have hm := mapC_put m (zs := ys.set k ((ys.getD k ([], 0)).1, a)) (es := (entsC n 0 ys).toArray.modify k (fun e => { e with val := .int .i64 a })) (c := ys.length) hu hf hr hb hmod (by simp)
  refine .inl ⟨undef, _, .inr ⟨?_, rfl⟩, V, _, hm.1, hm.2, VRep.v_iff.2 rfl⟩
  simp only [execOp, hr, e2, e3, Instr.entryStore, Sem.run_bind, MapKept.run_getObj_map hb, Result.andThen_ok, asInt, asIntOf, Sem.run_pure, hidx, MapKept.run_setObj_map _ hb]
/-! ### A range over it -/

theorem VStep.rangeM {T K : TypeId} {x : Operand} {n : Nat} {ys : List CE} {i : Nat} (hx : ρ x = some (.ob i)) (hH : H[i]? = some (.cust (mapCR n ys))) (hT : MapT P T K) :
    VStep P C ⟨d, .range T x, t, p, af, g⟩ ρ H (.ob H.length) (H.set i .dead ++ [.cust (iterR n ys [])]) := fun σ w V F m hρ => by
  have e1 := hρ x (by simp [Op.operands]) _ hx
  obtain ⟨u, f, hu, hf, ho⟩ := m.get hH
  unfold VRep at e1
  rw [hu] at e1
  cases e1
  unfold ORep at ho
  obtain ⟨_, r, hr, hfr, hb⟩ := ho
  subst hfr
  obtain ⟨E, ti, hU, hi, hz⟩ := hT
  have hlt : r < w.heap.size := (Array.getElem?_eq_some_iff.1 hb).1
  have hmv := m.move (w' := w.alloc (.mapIter (some r) ys.length #[] ys.length)) i (.cust (iterR n ys [])) [r] [r, w.heap.size] (.pointer (some ⟨w.heap.size, 0, none⟩)) rfl hf rfl rfl rfl (by simp)
    (fun b hb _ => Below.heap_alloc w _ b hb) (fun b hb => by
      simp only [List.mem_cons, List.not_mem_nil, or_false] at hb
      rcases hb with rfl | rfl
      · exact ⟨by simp; omega, .inl (by simp)⟩
      · exact ⟨by simp, .inr (Nat.le_refl _)⟩)
    (fun _ => by
      unfold ORep
      refine ⟨fun w₁ w₂ => iterR_stays w₁ w₂, r, w.heap.size, rfl, rfl, by omega, ?_, (MapKept.heap_alloc w _).1⟩
      rw [(MapKept.heap_alloc w _).2 r hlt]; exact hb)
  refine .inl ⟨.pointer (some ⟨w.heap.size, 0, none⟩), _, .inl ?_, _, _, hmv.1, hmv.2.2, ?_⟩
  · simp only [execOp, hr, Sem.run_bind, run_range_map w T K E r _ _ hU hb, Result.andThen_ok, Sem.run_pure]
  · unfold VRep
    simp [← m.lenV]
/-- What 'next' does in a world: nothing is left, or one that is left comes out. -/
theorem next_does {x : Operand} {n : Nat} {ys : List CE} {seen : List Nat} {i : Nat} {V : List Value} {F : List (List Nat)} {w : World} {σ : Operand → Value} (m : Mem C H V F w) (hx : σ x = (V[i]?).getD undef) (hH : H[i]? = some (.cust (iterR n ys seen))) :
    ((∀ j, j < ys.length → j ∈ seen) ∧ Does P C ⟨d, .next x false, t, p, af, g⟩ σ H (.tup [bv false]) V F w) ∨
    ∃ j y, ys[j]? = some y ∧ j ∉ seen ∧ Does P C ⟨d, .next x false, t, p, af, g⟩ σ (H.set i (.cust (iterR n ys (seen ++ [j])))) (.tup [bv true, .top, iv y.2]) V F w := by
  obtain ⟨u, f, hu, hf, ho⟩ := m.get hH
  rw [hu] at hx
  have hx : σ x = u := hx
  unfold ORep at ho
  obtain ⟨_, r, it, hux, hfr, hne, h1, h2⟩ := ho
  subst hfr
  have hitl : it < w.heap.size := (Array.getElem?_eq_some_iff.1 h2).1
  rcases run_next_at (P := P) w t it r ys.length ys.length seen.toArray (entsC n 0 ys).toArray ys.length h2 h1 (fun e he => entsC_born n ys e (by simpa using he)) (Nat.le_refl _) with ⟨hs, hrun⟩ | ⟨e, he, w1, hw1, hrun⟩
  · refine .inl ⟨fun j hj => ?_, .inl ⟨.tuple #[.bool false], w, .inl (by simp only [execOp, hx, hux, Sem.run_bind, hrun, Result.andThen_ok, Sem.run_pure]), V, F, m, Ext.refl _ _ _ _, ?_⟩⟩
    · refine Classical.byContradiction fun hn => ?_
      have hg : (entsC n 0 ys)[j]? = some ⟨kv (.tup n) ys[j].1, .int .i64 ys[j].2, j⟩ := by rw [entsC_get, List.getElem?_eq_getElem hj]; simp
      have hm : (⟨kv (.tup n) ys[j].1, .int .i64 ys[j].2, j⟩ : MapEntry) ∈ leftOf (entsC n 0 ys).toArray seen.toArray := by
        unfold leftOf
        rw [Array.mem_filter]
        refine ⟨by simpa using List.mem_of_getElem? hg, ?_⟩
        simpa using hn
      have := Array.eq_empty_of_size_eq_zero hs
      rw [this] at hm
      simp at hm
    · unfold VRep VReps VReps
      exact ⟨_, rfl, _, _, rfl, VRep.v_iff.2 rfl, rfl⟩
  · unfold leftOf at he
    have he : e ∈ Array.filter (fun e => !seen.toArray.contains e.born) (entsC n 0 ys).toArray := by simpa using he
    rw [Array.mem_filter] at he
    obtain ⟨he1, he2⟩ := he
    obtain ⟨j, hj⟩ := List.getElem?_of_mem (show e ∈ entsC n 0 ys by simpa using he1)
    rw [entsC_get] at hj
    cases hy : ys[j]? with
    | none => rw [hy] at hj; cases hj
    | some y =>
      rw [hy] at hj
      have hj : (⟨kv (.tup n) y.1, .int .i64 y.2, 0 + j⟩ : MapEntry) = e := by simpa using hj
      rw [Nat.zero_add] at hj
      subst hj
      refine .inr ⟨j, y, hy, by simpa using he2, ?_⟩
      have m1 : Mem C H V F w1 ∧ Ext C V F w V F w1 := by
        rcases hw1 with rfl | rfl
        · exact ⟨m, Ext.refl _ _ _ _⟩
        · exact m.drew
      have g1 : w1.heap[r]? = some (.map (entsC n 0 ys).toArray ys.length) := by rcases hw1 with rfl | rfl <;> exact h1
      have g2 : w1.heap[it]? = some (.mapIter (some r) ys.length seen.toArray ys.length) := by rcases hw1 with rfl | rfl <;> exact h2
      have hsz1 : it < w1.heap.size := (Array.getElem?_eq_some_iff.1 g2).1
      obtain ⟨k1, k2⟩ := MapKept.heap_set (o' := .mapIter (some r) ys.length (seen.toArray.push j) ys.length) g2
      have hset := m1.1.set (w' := setBlock w1 it (.mapIter (some r) ys.length (seen.toArray.push j) ys.length)) i (.cust (iterR n ys (seen ++ [j]))) [r, it] [r, it] u hu hf rfl rfl rfl (by simp [setBlock])
        (fun b _ hb => k2 b (by simp at hb; exact hb.2)) (fun b hb => by
          refine ⟨?_, .inl hb⟩
          have := (m1.1.own _ (mem_of_get hf) b hb).1
          simpa [setBlock] using this)
        (fun _ => by
          unfold ORep
          refine ⟨fun w₁ w₂ => iterR_stays w₁ w₂, r, it, hux, rfl, hne, ?_, ?_⟩
          · show (w1.heap.setIfInBounds it _)[r]? = _
            rw [k2 r hne]; exact g1
          · show (w1.heap.setIfInBounds it _)[it]? = _
            rw [k1]; simp)
      refine .inl ⟨.tuple #[.bool true, kv (.tup n) y.1, .int .i64 y.2], _, .inl (by simp only [execOp, hx, hux, Sem.run_bind, hrun, Result.andThen_ok, Sem.run_pure]), V, _, hset.1, m1.2.trans hset.2, ?_⟩
      unfold VRep VReps VReps VReps VReps
      exact ⟨_, rfl, _, _, rfl, VRep.v_iff.2 rfl, _, _, rfl, (by unfold VRep; trivial), _, _, rfl, VRep.v_iff.2 rfl, rfl⟩
/-- The round's key and value, read behind the step. -/
theorem VStep.entryM {x : Operand} {n : Nat} {ys : List CE} {seen : List Nat} {i j : Nat} {y : CE} (hx : ρ x = some (.ob i)) (hH : H[i]? = some (.cust (iterR n ys (seen ++ [j])))) (hy : ys[j]? = some y) :
    VStep P C ⟨d, .entry x, t, p, af, g⟩ ρ H (.tup [.top, iv y.2]) H := .same fun σ w V F m h => by
  have e1 := h x (by simp [Op.operands]) _ hx
  obtain ⟨u, f, hu, hf, ho⟩ := m.get hH
  unfold VRep at e1
  rw [hu] at e1
  cases e1
  unfold ORep at ho
  obtain ⟨_, r, it, hux, hfr, hne, h1, h2⟩ := ho
  have hg : (entsC n 0 ys)[j]? = some ⟨kv (.tup n) y.1, .int .i64 y.2, j⟩ := by rw [entsC_get, hy]; simp
  have hrun := run_entry_at (P := P) w it r ys.length seen.toArray (entsC n 0 ys).toArray ys.length ⟨kv (.tup n) y.1, .int .i64 y.2, j⟩ (by rw [h2]; simp) h1 (by simpa using List.mem_of_getElem? hg) (by simpa using entsC_borns n ys)
  refine ⟨.tuple #[kv (.tup n) y.1, .int .i64 y.2], by simp only [execOp, hux, Sem.run_bind, hrun, Result.andThen_ok, Sem.run_pure], ?_⟩
  unfold VRep VReps VReps VReps
  exact ⟨_, rfl, _, _, rfl, (by unfold VRep; trivial), _, _, rfl, VRep.v_iff.2 rfl, rfl⟩
end
end Go.Qw
