/-
  Slices of slices that the call owns and writes: the headers as values in a slice of their own, all rows together as one object; one row taken out for an operation and put back. No program is named here.
-/
import Derived.Test.YtmeacgkhabnjlaaDoorQwQ
set_option linter.unusedSimpArgs false
set_option linter.unusedVariables false
set_option linter.unusedSectionVars false
namespace Go.Qw
open Go.RowKit

/-! ### Objects that hang on nothing but their own blocks -/

def FlatO (o : OD) : Prop := ∀ (ok ok' : Nat → Prop) (w : World) (V V' : List Value) (x : Value) (f : List Nat), ORep ok w V x f o.ob → ORep ok' w V' x f o.ob
theorem flat_cust (R : World → Value → List Nat → Prop) : FlatO (.cust R) := fun ok ok' w V V' x f h => by
  have h : ORep ok w V x f (.cust R) := h
  show ORep ok' w V' x f (.cust R)
  unfold ORep at h ⊢
  exact h
theorem flat_dead : FlatO .dead := fun ok ok' w V V' x f h => by
  have h : ORep ok w V x f .dead := h
  show ORep ok' w V' x f .dead
  unfold ORep at h ⊢
  exact h
theorem flat_vals {e : TypeId} {τ : Ty} {xs : List τ.T} (us : List Value) (h : xs.flatMap (gT τ) = us.map .v) : FlatO (.row e τ xs) := fun ok ok' w V V' x f hr => by
  have hr : ORep ok w V x f (.row e τ.size (xs.flatMap (gT τ))) := hr
  show ORep ok' w V' x f (.row e τ.size (xs.flatMap (gT τ)))
  rw [h] at hr ⊢
  unfold ORep at hr ⊢
  obtain ⟨h0, n, vs, ho, hl, hv, he⟩ := hr
  have := VReps.vals_eq hv
  subst this
  exact ⟨h0, n, vs, ho, hl, VReps.vals _, he⟩
theorem vals_map {τ : Ty} (g : τ.T → Value) (h : ∀ x, gT τ x = [.v (g x)]) : ∀ xs : List τ.T, xs.flatMap (gT τ) = (xs.map g).map .v
  | [] => rfl
  | x :: xs => by rw [List.flatMap_cons, h, vals_map g h xs]; rfl
theorem flat_int {e : TypeId} (xs : List Int) : FlatO (.row e .int xs) := flat_vals (τ := .int) _ (vals_map (τ := .int) (fun n => .int .i64 n) (fun _ => rfl) xs)
theorem flat_bool {e : TypeId} (xs : List Bool) : FlatO (.row e .bool xs) := flat_vals (τ := .bool) _ (vals_map (τ := .bool) (fun b => .bool b) (fun _ => rfl) xs)
theorem flat_val {e : TypeId} (xs : List Value) : FlatO (.row e .val xs) := flat_vals (τ := .val) _ (vals_map (τ := .val) hdV (fun _ => rfl) xs)

/-! ### All rows as one object -/

/-- Row i is what 'os' says of it, its header the value that 'hd' has there; the rows share no memory. -/
def rowsR (hd : List Value) (os : List OD) (w : World) (fs : List (List Nat)) : Prop :=
  os.length = hd.length ∧ fs.length = hd.length ∧ (∀ (i : Nat) (o : OD) (f : List Nat), os[i]? = some o → fs[i]? = some f → ORep (fun _ => False) w [] (hdV (hd.getD i undef)) f o.ob) ∧
    ∀ (i j : Nat) (f g : List Nat) (b : Nat), fs[i]? = some f → fs[j]? = some g → b ∈ f → b ∈ g → i = j
def rowsC (hd : List Value) (os : List OD) (w : World) (_ : Value) (f : List Nat) : Prop := ∃ fs, rowsR hd os w fs ∧ f = fs.flatten
def rowsO (hd : List Value) (os : List OD) : OD := .cust (rowsC hd os)

theorem rowsC_stays {hd : List Value} {os : List OD} {x : Value} {f : List Nat} (w₁ w₂ : World) (hb : ∀ b ∈ f, w₂.heap[b]? = w₁.heap[b]?) (h : rowsC hd os w₁ x f) : rowsC hd os w₂ x f := by
  obtain ⟨fs, ⟨h1, h2, h3, h4⟩, rfl⟩ := h
  exact ⟨fs, ⟨h1, h2, fun i o f ho hf => (h3 i o f ho hf).ext (fun _ _ h => h) (fun _ h => h.elim) (fun b hbf => hb b (List.mem_flatten.2 ⟨f, mem_of_get hf, hbf⟩)) _, h4⟩, rfl⟩
theorem orep_rows {ok : Nat → Prop} {w : World} {V : List Value} {x : Value} {f : List Nat} {hd : List Value} {os : List OD} : ORep ok w V x f (rowsO hd os).ob ↔ rowsC hd os w x f := by
  show ORep ok w V x f (.cust (rowsC hd os)) ↔ _
  unfold ORep
  exact ⟨fun h => h.2, fun h => ⟨rowsC_stays, h⟩⟩
theorem orep_dead {ok : Nat → Prop} {w : World} {V : List Value} {x : Value} {f : List Nat} : ORep ok w V x f OD.dead.ob ↔ f = [] := by
  show ORep ok w V x f .dead ↔ _
  unfold ORep
  exact Iff.rfl

section
variable {P : Program} {C : Ctx} {H : List Ob} {V : List Value} {F : List (List Nat)} {w : World}

theorem set2_get {α : Type} {l : List α} {j k i : Nat} {a b c : α} (h : ((l.set j a).set k b)[i]? = some c) (hj : j < l.length) (hk : k < l.length) : (i = k ∧ c = b) ∨ (i ≠ k ∧ i = j ∧ c = a) ∨ (i ≠ k ∧ i ≠ j ∧ l[i]? = some c) := by
  rw [List.getElem?_set] at h
  by_cases hki : k = i
  · subst hki
    rw [if_pos rfl, if_pos (by simpa using hk)] at h
    cases h
    exact .inl ⟨rfl, rfl⟩
  · rw [if_neg hki, List.getElem?_set] at h
    by_cases hji : j = i
    · subst hji
      rw [if_pos rfl, if_pos hj] at h
      cases h
      exact .inr (.inl ⟨fun e => hki e.symm, rfl, rfl⟩)
    · rw [if_neg hji] at h
      exact .inr (.inr ⟨fun e => hki e.symm, fun e => hji e.symm, h⟩)

/-- Two objects share out anew what they own. -/
theorem Mem.regroup (m : Mem C H V F w) {j k : Nat} (hjk : j ≠ k) {fj fk fj' fk' : List Nat} {xj xk : Value} {oj okk : Ob} (hVj : V[j]? = some xj) (hVk : V[k]? = some xk) (hFj : F[j]? = some fj) (hFk : F[k]? = some fk)
    (hsub : ∀ b, (b ∈ fj' ∨ b ∈ fk') → (b ∈ fj ∨ b ∈ fk)) (hdis : ∀ b, b ∈ fj' → b ∈ fk' → False) (hoj : ∀ ok V', ORep ok w V' xj fj' oj) (hok : ∀ ok V', ORep ok w V' xk fk' okk) :
    Mem C ((H.set j oj).set k okk) V ((F.set j fj').set k fk') w ∧ Ext C V F w V ((F.set j fj').set k fk') w := by
  have hjF : j < F.length := (List.getElem?_eq_some_iff.1 hFj).1
  have hkF : k < F.length := (List.getElem?_eq_some_iff.1 hFk).1
  have hjH : j < H.length := by rw [← m.lenF]; exact hjF
  have hkH : k < H.length := by rw [← m.lenF]; exact hkF
  have up : ∀ b, (b ∈ fj' ∨ b ∈ fk') → ∃ f ∈ F, b ∈ f := fun b hb => by
    rcases hsub b hb with h | h
    · exact ⟨fj, mem_of_get hFj, h⟩
    · exact ⟨fk, mem_of_get hFk, h⟩
  -- a block of object i, i another one, is no block of these two
  have no : ∀ (i : Nat) (g : List Nat) (b : Nat), i ≠ j → i ≠ k → F[i]? = some g → b ∈ g → (b ∈ fj' ∨ b ∈ fk') → False := fun i g b hij hik hg hb h => by
    rcases hsub b h with h | h
    · exact hij (m.apart i j g fj b hg hFj hb h)
    · exact hik (m.apart i k g fk b hg hFk hb h)
  refine m.upd rfl rfl rfl (Nat.le_refl _) (fun _ _ _ => rfl) (by simp [m.lenV]) (by simp [m.lenF]) (fun _ _ h => h) ?_ ?_ m.one ?_
  · intro g hg b hb
    obtain ⟨i, hi⟩ := List.getElem?_of_mem hg
    have key : ∃ f ∈ F, b ∈ f := by
      rcases set2_get hi hjF hkF with ⟨_, rfl⟩ | ⟨_, _, rfl⟩ | ⟨_, _, h⟩
      · exact up b (.inr hb)
      · exact up b (.inl hb)
      · exact ⟨g, mem_of_get h, hb⟩
    obtain ⟨f, hf, hbf⟩ := key
    exact ⟨(m.own f hf b hbf).1, .inl ⟨f, hf, hbf⟩⟩
  · intro p q g h b hp hq hbg hbh
    rcases set2_get hp hjF hkF with ⟨p1, rfl⟩ | ⟨p1, p2, rfl⟩ | ⟨p1, p2, p3⟩ <;> rcases set2_get hq hjF hkF with ⟨q1, rfl⟩ | ⟨q1, q2, rfl⟩ | ⟨q1, q2, q3⟩
    · rw [p1, q1]
    · exact (hdis b hbh hbg).elim
    · exact (no q _ b q2 q1 q3 hbh (.inr hbg)).elim
    · exact (hdis b hbg hbh).elim
    · rw [p2, q2]
    · exact (no q _ b q2 q1 q3 hbh (.inl hbg)).elim
    · exact (no p _ b p2 p1 p3 hbg (.inr hbh)).elim
    · exact (no p _ b p2 p1 p3 hbg (.inl hbh)).elim
    · exact m.apart p q g h b p3 q3 hbg hbh
  · intro _ i o y g ho hy hg
    rcases set2_get hg hjF hkF with ⟨p1, rfl⟩ | ⟨p1, p2, rfl⟩ | ⟨p1, p2, p3⟩
    · subst p1
      rw [hVk] at hy
      cases hy
      rcases set2_get ho hjH hkH with ⟨_, rfl⟩ | ⟨q, _⟩ | ⟨q, _⟩
      · exact .inr (hok _ _)
      · exact absurd rfl q
      · exact absurd rfl q
    · subst p2
      rw [hVj] at hy
      cases hy
      rcases set2_get ho hjH hkH with ⟨q, _⟩ | ⟨_, _, rfl⟩ | ⟨_, q, _⟩
      · exact absurd q p1
      · exact .inr (hoj _ _)
      · exact absurd rfl q
    · rcases set2_get ho hjH hkH with ⟨q, _⟩ | ⟨_, q, _⟩ | ⟨_, _, h⟩
      · exact absurd q p1
      · exact absurd q p2
      · exact .inl ⟨h, hy, p3, fun _ _ => rfl⟩

theorem flat_mem {fs : List (List Nat)} {b : Nat} : b ∈ fs.flatten ↔ ∃ (i : Nat) (f : List Nat), fs[i]? = some f ∧ b ∈ f := by
  rw [List.mem_flatten]
  constructor
  · rintro ⟨f, hf, hb⟩
    obtain ⟨i, hi⟩ := List.getElem?_of_mem hf
    exact ⟨i, f, hi, hb⟩
  · rintro ⟨i, f, hi, hb⟩
    exact ⟨f, mem_of_get hi, hb⟩
theorem flat_set {fs : List (List Nat)} {p b : Nat} {g : List Nat} (hp : p < fs.length) : b ∈ (fs.set p g).flatten ↔ b ∈ g ∨ ∃ (i : Nat) (f : List Nat), i ≠ p ∧ fs[i]? = some f ∧ b ∈ f := by
  rw [flat_mem]
  constructor
  · rintro ⟨i, f, hi, hb⟩
    rw [List.getElem?_set] at hi
    split at hi
    · rename_i hpi
      cases hi
      exact .inl hb
    · rename_i hpi
      exact .inr ⟨i, f, fun e => hpi e.symm, hi, hb⟩
  · rintro (hb | ⟨i, f, hne, hi, hb⟩)
    · exact ⟨p, g, by rw [List.getElem?_set, if_pos rfl, if_pos hp], hb⟩
    · exact ⟨i, f, by rw [List.getElem?_set, if_neg (fun e => hne e.symm)]; exact hi, hb⟩

theorem rowsR.set {hd hd' : List Value} {os : List OD} {fs : List (List Nat)} (h : rowsR hd os w fs) {p : Nat} {o : OD} {g : List Nat} (hp : p < hd.length) (hl : hd'.length = hd.length) (hsame : ∀ i : Nat, i ≠ p → hdV (hd'.getD i undef) = hdV (hd.getD i undef))
    (ho : ORep (fun _ => False) w [] (hdV (hd'.getD p undef)) g o.ob) (hap : ∀ (i : Nat) (f : List Nat) (b : Nat), i ≠ p → fs[i]? = some f → b ∈ f → b ∈ g → False) : rowsR hd' (os.set p o) w (fs.set p g) := by
  obtain ⟨h1, h2, h3, h4⟩ := h
  refine ⟨by simp [h1, hl], by simp [h2, hl], fun i o' f hi hf => ?_, fun i j f f' b hi hj hb hb' => ?_⟩
  · rw [List.getElem?_set] at hi hf
    by_cases hpi : p = i
    · subst hpi
      rw [if_pos rfl, if_pos (by omega)] at hi hf
      cases hi
      cases hf
      exact ho
    · rw [if_neg hpi] at hi hf
      rw [hsame i fun e => hpi e.symm]
      exact h3 i o' f hi hf
  · rw [List.getElem?_set] at hi hj
    by_cases hpi : p = i
    · subst hpi
      rw [if_pos rfl, if_pos (by omega)] at hi
      cases hi
      by_cases hpj : p = j
      · exact hpj
      · rw [if_neg hpj] at hj
        exact (hap j f' b (fun e => hpj e.symm) hj hb' hb).elim
    · rw [if_neg hpi] at hi
      by_cases hpj : p = j
      · subst hpj
        rw [if_pos rfl, if_pos (by omega)] at hj
        cases hj
        exact (hap i f b (fun e => hpi e.symm) hi hb hb').elim
      · rw [if_neg hpj] at hj
        exact h4 i j f f' b hi hj hb hb'

theorem set_last {α : Type} (l : List α) (a b : α) : (l ++ [a]).set l.length b = l ++ [b] := by simp

/-- One row is taken out: an object of its own, the last one. -/
theorem Mem.split (m : Mem C H V F w) {j p : Nat} {hd : List Value} {os : List OD} {o : OD} (hj : H[j]? = some (rowsO hd os).ob) (hp : os[p]? = some o) (hfl : FlatO o) :
    ∃ F', Mem C (H.set j (rowsO hd (os.set p .dead)).ob ++ [o.ob]) (V ++ [hdV (hd.getD p undef)]) F' w ∧ Ext C V F w (V ++ [hdV (hd.getD p undef)]) F' w := by
  obtain ⟨m1, e1⟩ := m.push (w' := w) .dead [] (hdV (hd.getD p undef)) (hdV_one _) rfl rfl rfl (Nat.le_refl _) (fun _ _ => rfl) (fun b hb => by cases hb) (fun _ => orep_dead.2 rfl)
  obtain ⟨xj, fj, hVj, hFj, hoj⟩ := m.get hj
  obtain ⟨fs, hR, rfl⟩ := orep_rows.1 hoj
  have hjH : j < H.length := (List.getElem?_eq_some_iff.1 hj).1
  have hpo : p < os.length := (List.getElem?_eq_some_iff.1 hp).1
  have hph : p < hd.length := by rw [← hR.1]; exact hpo
  have hpf : p < fs.length := by rw [hR.2.1]; exact hph
  have hfp : fs[p]? = some fs[p] := List.getElem?_eq_getElem hpf
  have hop := hR.2.2.1 p o _ hp hfp
  have hdd : ∀ b, b ∈ (fs.set p []).flatten → ∃ (i : Nat) (f : List Nat), i ≠ p ∧ fs[i]? = some f ∧ b ∈ f := fun b hb => by
    rcases (flat_set hpf).1 hb with h | h
    · cases h
    · exact h
  obtain ⟨m2, e2⟩ := m1.regroup (j := j) (k := H.length) (by omega) (fj := fs.flatten) (fk := []) (fj' := (fs.set p []).flatten) (fk' := fs[p]) (xj := xj) (xk := hdV (hd.getD p undef)) (oj := (rowsO hd (os.set p .dead)).ob) (okk := o.ob)
    (by rw [List.getElem?_append_left (by rw [m.lenV]; exact hjH)]; exact hVj) (by rw [← m.lenV]; simp) (by rw [List.getElem?_append_left (by rw [m.lenF]; exact hjH)]; exact hFj) (by rw [← m.lenF]; simp)
    (fun b hb => .inl (by
      rcases hb with hb | hb
      · obtain ⟨i, f, _, hi, hbf⟩ := hdd b hb
        exact flat_mem.2 ⟨i, f, hi, hbf⟩
      · exact flat_mem.2 ⟨p, _, hfp, hb⟩))
    (fun b hb hb2 => by
      obtain ⟨i, f, hne, hi, hbf⟩ := hdd b hb
      exact hne (hR.2.2.2 i p f _ b hi hfp hbf hb2))
    (fun ok V' => orep_rows.2 ⟨_, hR.set hph rfl (fun _ _ => rfl) (orep_dead.2 rfl) (fun _ _ _ _ _ _ h => by cases h), rfl⟩) (fun ok V' => hfl _ _ _ _ _ _ _ hop)
  refine ⟨_, ?_, e1.trans e2⟩
  have : ((H ++ [Ob.dead]).set j (rowsO hd (os.set p .dead)).ob).set H.length o.ob = H.set j (rowsO hd (os.set p .dead)).ob ++ [o.ob] := by
    rw [List.set_append_left _ _ hjH]
    have := set_last (H.set j (rowsO hd (os.set p .dead)).ob) Ob.dead o.ob
    rwa [List.length_set] at this
  rw [this] at m2
  exact m2

/-- An object becomes a row. -/
theorem Mem.merge (m : Mem C H V F w) {j k p : Nat} {hd hd' : List Value} {os : List OD} {o : OD} {x : Value} (hjk : j ≠ k) (hj : H[j]? = some (rowsO hd os).ob) (hk : H[k]? = some o.ob) (hp : os[p]? = some .dead) (hfl : FlatO o) (hx : V[k]? = some x)
    (hl : hd'.length = hd.length) (hsame : ∀ i : Nat, i ≠ p → hdV (hd'.getD i undef) = hdV (hd.getD i undef)) (hnew : hdV (hd'.getD p undef) = x) :
    ∃ F', Mem C ((H.set j (rowsO hd' (os.set p o)).ob).set k .dead) V F' w ∧ Ext C V F w V F' w := by
  obtain ⟨xj, fj, hVj, hFj, hoj⟩ := m.get hj
  obtain ⟨fs, hR, rfl⟩ := orep_rows.1 hoj
  obtain ⟨xk, fk, hVk, hFk, hok⟩ := m.get hk
  rw [hx] at hVk
  cases hVk
  have hpo : p < os.length := (List.getElem?_eq_some_iff.1 hp).1
  have hph : p < hd.length := by rw [← hR.1]; exact hpo
  have hpf : p < fs.length := by rw [hR.2.1]; exact hph
  have hap : ∀ (i : Nat) (f : List Nat) (b : Nat), i ≠ p → fs[i]? = some f → b ∈ f → b ∈ fk → False := fun i f b _ hi hb hb2 => hjk (m.apart j k _ fk b hFj hFk (flat_mem.2 ⟨i, f, hi, hb⟩) hb2)
  obtain ⟨m2, e2⟩ := m.regroup hjk (fj' := (fs.set p fk).flatten) (fk' := []) (oj := (rowsO hd' (os.set p o)).ob) (okk := .dead) hVj hx hFj hFk
    (fun b hb => by
      rcases hb with hb | hb
      · rcases (flat_set hpf).1 hb with h | ⟨i, f, _, hi, hbf⟩
        · exact .inr h
        · exact .inl (flat_mem.2 ⟨i, f, hi, hbf⟩)
      · cases hb)
    (fun b _ hb => by cases hb)
    (fun ok V' => orep_rows.2 ⟨_, hR.set hph hl hsame (by rw [hnew]; exact hfl _ _ _ _ _ _ _ hok) hap, rfl⟩) (fun ok V' => orep_dead.2 rfl)
  exact ⟨_, m2, e2⟩
/-- The last object, given up, is forgotten. -/
theorem Mem.pop {x : Value} {F1 : List (List Nat)} (hfree : ∀ o ∈ H, o.free = true) (m : Mem C (H ++ [.dead]) (V ++ [x]) F1 w) (hc : ∀ (i : Nat) (y : Value), C.V0[i]? = some y → V[i]? = some y) : ∃ F', F1 = F' ++ [[]] ∧ Mem C H V F' w := by
  have hlV : V.length = H.length := by have := m.lenV; simpa using this
  have hlF : F1.length = H.length + 1 := by have := m.lenF; simpa using this
  obtain ⟨F', f, rfl⟩ : ∃ F' f, F1 = F' ++ [f] := ⟨F1.dropLast, F1.getLast (fun e => by rw [e] at hlF; simp at hlF), (List.dropLast_concat_getLast _).symm⟩
  have hlF' : F'.length = H.length := by simpa using hlF
  have hf : f = [] := orep_dead.1 (m.obs H.length .dead x f (by simp) (by rw [← hlV]; simp) (by rw [← hlF']; simp))
  subst hf
  have ok : ∀ b, okB C w (F' ++ [[]]) b → okB C w F' b := fun b hb => ⟨hb.1, hb.2.1, fun f hf => hb.2.2 f (List.mem_append_left _ hf)⟩
  refine ⟨F', rfl, ⟨m.os, m.tape, m.output, m.size, m.kept, hlV, hlF', fun i o y f ho hy hf => ?_, fun i y h => m.one i y (by rw [List.getElem?_append_left (List.getElem?_eq_some_iff.1 h).1]; exact h), fun i j f g b hi hj => m.apart i j f g b (by rw [List.getElem?_append_left (List.getElem?_eq_some_iff.1 hi).1]; exact hi) (by rw [List.getElem?_append_left (List.getElem?_eq_some_iff.1 hj).1]; exact hj), fun f hf => m.own f (List.mem_append_left _ hf), hc⟩⟩
  have hi : i < H.length := (List.getElem?_eq_some_iff.1 ho).1
  have h1 := m.obs i o y f (by rw [List.getElem?_append_left hi]; exact ho) (by rw [List.getElem?_append_left (by omega)]; exact hy) (by rw [List.getElem?_append_left (by omega)]; exact hf)
  exact (h1.anyV o (hfree o (mem_of_get ho)) (V' := V)).ext (fun _ _ h => h) (fun b hb => ⟨ok b hb, rfl⟩) (fun _ _ => rfl) o

/-! ### One operation on one row -/

/-- The address of cell c of what a header holds. -/
def ptrOf (x : Value) (c : Nat) : Value := match baseOf x with
  | some ad => .pointer (some (ad.add c))
  | none => undef
def Based (o : OD) : Prop := ∀ (ok : Nat → Prop) (w : World) (V : List Value) (x : Value) (f : List Nat), ORep ok w V x f o.ob → ∃ ad, baseOf x = some ad
theorem based_row {e : TypeId} {τ : Ty} {xs : List τ.T} (h : 0 < xs.length) : Based (.row e τ xs) := fun ok w V x f hr => by
  obtain ⟨_, us, ho, _, _⟩ := row_form (gT_len τ) (show ORep ok w V x f (.row e τ.size (xs.flatMap (gT τ))) from hr)
  rcases ho.2 with ⟨_, e3⟩ | ⟨gb, cap, cur, e1, _⟩
  · omega
  · exact ⟨⟨gb, 0, none⟩, by rw [e1]; rfl⟩

theorem VStep.focus {o : Oper} {ρ ρ' : Operand → Option AV} {hd : List Value} {os : List OD} {j p : Nat} {o1 o2 : OD} {r r' : AV} (hfree : ∀ q ∈ H, q.free = true) (hj : H[j]? = some (rowsO hd os).ob) (hp : os[p]? = some o1) (h1 : FlatO o1) (h2 : FlatO o2)
    (hρ : ∀ y ∈ o.op.operands, ∀ b, ρ' y = some b → ρ y = some b ∨ (b = .ob H.length ∧ ρ y = some (.v (hdV (hd.getD p undef)))) ∨ (∃ c, b = .op H.length c ∧ ρ y = some (.v (ptrOf (hdV (hd.getD p undef)) c)) ∧ Based o1))
    (hr : (r' = r ∧ r.free = true) ∨ ∃ c, r' = .op H.length c ∧ r = .v (ptrOf (hdV (hd.getD p undef)) c))
    (h : VStep P C o ρ' (H.set j (rowsO hd (os.set p .dead)).ob ++ [o1.ob]) r' (H.set j (rowsO hd (os.set p .dead)).ob ++ [o2.ob])) : VStep P C o ρ H r (H.set j (rowsO hd (os.set p o2)).ob) := fun σ w V F m hσ => by
  obtain ⟨F1, m1, e1⟩ := m.split hj hp h1
  have hjH : j < H.length := (List.getElem?_eq_some_iff.1 hj).1
  have hpo : p < os.length := (List.getElem?_eq_some_iff.1 hp).1
  have hlV : V.length = H.length := m.lenV
  have hx : (V ++ [hdV (hd.getD p undef)])[H.length]? = some (hdV (hd.getD p undef)) := by rw [← hlV]; simp
  have hHl : (H.set j (rowsO hd (os.set p .dead)).ob).length = H.length := by simp
  have hd0 := h σ w _ F1 m1 (fun y hy b hb => by
    rcases hρ y hy b hb with h | ⟨rfl, h⟩ | ⟨c, rfl, h, hB⟩
    · exact e1.rep (hσ y hy b h)
    · have := VRep.v_iff.1 (hσ y hy _ h)
      unfold VRep
      rw [this]
      exact hx
    · have := VRep.v_iff.1 (hσ y hy _ h)
      obtain ⟨z, f, hz, hf, ho⟩ := m1.get (i := H.length) (o := o1.ob) (by rw [← hHl]; simp)
      rw [hx] at hz
      cases hz
      obtain ⟨ad, had⟩ := hB _ _ _ _ _ ho
      unfold VRep
      exact ⟨ad, by rw [hx]; exact had, by rw [this]; unfold ptrOf; rw [had]⟩)
  have key : ∀ u w', Out C (H.set j (rowsO hd (os.set p .dead)).ob ++ [o2.ob]) r' (V ++ [hdV (hd.getD p undef)]) F1 w u w' → Out C (H.set j (rowsO hd (os.set p o2)).ob) r V F w u w' := by
    rintro u w' ⟨V', F', m2, e2, hu⟩
    have hV' : V' = V ++ [hdV (hd.getD p undef)] := by
      have hl : V'.length = V.length + 1 := by rw [m2.lenV]; simp [hlV]
      apply List.ext_getElem?
      intro i
      by_cases hi : i < V.length + 1
      · have hi' : i < (V ++ [hdV (hd.getD p undef)]).length := by simpa using hi
        rw [List.getElem?_eq_getElem hi']
        exact e2.car i _ (List.getElem?_eq_getElem hi')
      · rw [List.getElem?_eq_none (by omega), List.getElem?_eq_none (by simp; omega)]
    subst hV'
    obtain ⟨F2, m3, e3⟩ := m2.merge (j := j) (k := H.length) (p := p) (hd := hd) (hd' := hd) (os := os.set p .dead) (o := o2) (x := hdV (hd.getD p undef)) (by omega)
      (by rw [List.getElem?_append_left (by rw [hHl]; exact hjH), List.getElem?_set, if_pos rfl, if_pos hjH]) (by rw [← hHl]; simp) (by rw [List.getElem?_set, if_pos rfl, if_pos hpo]) h2 hx rfl (fun _ _ => rfl) rfl
    have hHeq : ((H.set j (rowsO hd (os.set p .dead)).ob ++ [o2.ob]).set j (rowsO hd ((os.set p .dead).set p o2)).ob).set H.length .dead = H.set j (rowsO hd (os.set p o2)).ob ++ [.dead] := by
      rw [List.set_append_left _ _ (by rw [hHl]; exact hjH), List.set_set, List.set_set]
      have := set_last (H.set j (rowsO hd (os.set p o2)).ob) o2.ob .dead
      rwa [List.length_set] at this
    rw [hHeq] at m3
    obtain ⟨F3, hF3, m4⟩ := Mem.pop (fun q hq => by
      obtain ⟨i, hi⟩ := List.getElem?_of_mem hq
      rw [List.getElem?_set] at hi
      split at hi
      · cases hi; rfl
      · exact hfree q (mem_of_get hi)) m3 m.car
    subst hF3
    have ok : ∀ b, okB C w' F' b → okB C w' F3 b := fun b hb => by
      have := (e3.blk b hb).1
      exact ⟨this.1, this.2.1, fun f hf => this.2.2 f (List.mem_append_left _ hf)⟩
    refine ⟨V, F3, m4, ⟨fun _ _ h => h, fun b hb => ?_⟩, ?_⟩
    · have q1 := e1.blk b hb
      have q2 := e2.blk b q1.1
      exact ⟨ok b q2.1, q2.2.trans q1.2⟩
    · rcases hr with ⟨rfl, hf⟩ | ⟨c, rfl, rfl⟩
      · exact (hu.anyV _ _ hf (V' := V)).ext (fun _ _ h => h) fun b hb => ⟨ok b hb, rfl⟩
      · unfold VRep at hu
        obtain ⟨ad, g1, g2⟩ := hu
        rw [hx] at g1
        have g1 : baseOf (hdV (hd.getD p undef)) = some ad := g1
        refine VRep.v_iff.2 ?_
        unfold ptrOf
        rw [g1]
        exact g2
  rcases hd0 with ⟨u, w', hrun, hout⟩ | ⟨f, args, hrun, hc⟩
  · exact .inl ⟨u, w', hrun, key u w' hout⟩
  · exact .inr ⟨f, args, hrun, hc.mono fun e w' ⟨u, he, ho⟩ => ⟨u, he, key u w' ho⟩⟩

def freeO : OD → Bool
  | .box _ l => freeDs l
  | .raw o => o.free
  | _ => true
theorem freeO_ok : ∀ {o : OD}, freeO o = true → o.ob.free = true
  | .row _ τ xs, _ => frees_flatMap (gT_free τ) xs
  | .arr _ τ xs, _ => frees_flatMap (gT_free τ) xs
  | .box _ l, h => freeDs_av l h
  | .cust _, _ => rfl
  | .dead, _ => rfl
  | .raw _, h => h
def allFree : List OD → Bool
  | [] => true
  | o :: r => freeO o && allFree r
theorem allFree_ok : ∀ {H : List OD}, allFree H = true → ∀ q ∈ H.map OD.ob, q.free = true
  | o :: r, h, q, hq => by
    simp only [allFree, Bool.and_eq_true] at h
    rw [List.map_cons] at hq
    rcases List.mem_cons.1 hq with rfl | hq
    · exact freeO_ok h.1
    · exact allFree_ok h.2 q hq
def notTmp (n : Nat) : List Operand → Bool
  | [] => true
  | .tmp m :: r => !Nat.beq m n && notTmp n r
  | _ :: r => notTmp n r
theorem notTmp_ne {n : Nat} : ∀ {l : List Operand}, notTmp n l = true → ∀ y ∈ l, y ≠ .tmp n
  | x :: r, h, y, hy => by
    cases x with
    | tmp m =>
      simp only [notTmp, Bool.and_eq_true] at h
      rcases List.mem_cons.1 hy with rfl | hy
      · intro e
        cases e
        simp at h
      · exact notTmp_ne h.2 y hy
    | _ =>
      simp only [notTmp] at h
      rcases List.mem_cons.1 hy with rfl | hy
      · intro e; cases e
      · exact notTmp_ne h y hy
theorem evs_congr {ρ ρ' : Operand → Option AV} : ∀ {l : List Operand}, (∀ y ∈ l, ρ' y = ρ y) → evs ρ' l = evs ρ l
  | [], _ => rfl
  | x :: r, h => by
    simp only [evs, h x List.mem_cons_self, evs_congr fun y hy => h y (List.mem_cons_of_mem _ hy)]
theorem renA_free (i : Nat) {a : AV} (h : a.free = true) : renA i a = some a := by
  cases a <;> first | (simp [AV.free] at h; done) | (unfold renA; simp [h])
theorem renL_free (i : Nat) : ∀ {l : List AV}, AV.frees l = true → renL i l = some l
  | [], _ => rfl
  | a :: l, h => by
    simp only [AV.frees, Bool.and_eq_true] at h
    simp only [renL, renA_free i h.1, renL_free i h.2]

variable {tb : Tab} {fr : DF} {Hd : List OD} {d : Option Nat} {t : TypeId} {ps : String} {af : Array Edge} {g : Option (Nat × Bool)}
open Classical in
/-- A call that is handed one of the rows, to turn. -/
theorem StepD.callM {f : FuncId} {args : Array Operand} {ats : Array TypeId} {ds : List DV} {r : DV} {hd : List Value} {os : List OD} (j p : Nat) {o1 o2 : OD} {n : Nat} {rest : List Operand} {v : Value} (hfn : LiftsO P f (.ob 0 :: ds) o1 r o2) (hp : os[p]? = some o1) (h1 : FlatO o1) (h2 : FlatO o2)
    (hargs : args.toList = .tmp n :: rest) (hn : evS tb.E fr (.tmp n) = some (.u v)) (hv : v = hdV (hd.getD p undef)) (hrest : evsD (evS tb.E fr) rest = some ds) (hnot : notTmp n rest = true) (hfree : freeDs ds = true) (hr : freeD r = true) (hH : getOD Hd j = some (rowsO hd os)) (hf : allFree Hd = true) (ho1 : o1.ob.free = true) (ho2 : o2.ob.free = true) :
    StepD P C tb fr ⟨d, .call { callee := .value (.func f), args := args, argTypes := ats }, t, ps, af, g⟩ Hd r (setOD Hd j (rowsO hd (os.set p o2))) := fun ρA hρ => by
  subst hv
  rw [setOD_map]
  have hA := hρ.1 _ _ hn
  have hE := evsD_evs hρ hrest
  refine VStep.focus (ρ' := fun y => if y = .tmp n then some (.ob (Hd.map OD.ob).length) else ρA y) (allFree_ok hf) (getOD_map hH) hp h1 h2 (fun y _ b hb => ?_) (.inl ⟨rfl, freeD_av _ hr⟩) ?_
  · split at hb
    · rename_i hy
      subst hy
      cases hb
      exact .inr (.inl ⟨rfl, hA⟩)
    · exact .inl hb
  · have hl : ((Hd.map OD.ob).set j (rowsO hd (os.set p .dead)).ob).length = (Hd.map OD.ob).length := by simp
    have := VStep.callE (P := P) (C := C) (ρ := fun y => if y = .tmp n then some (.ob (Hd.map OD.ob).length) else ρA y) (H := (Hd.map OD.ob).set j (rowsO hd (os.set p .dead)).ob ++ [o1.ob]) (d := d) (t := t) (p := ps) (af := af) (g := g) (ats := ats) (args := args) (f := f)
      (avs := .ob (Hd.map OD.ob).length :: DV.avs ds) (bs := .ob 0 :: DV.avs ds) (r := r.av) (i := (Hd.map OD.ob).length) (o := o1.ob) (o' := o2.ob) ?_ ?_ ?_ ?_ hfn (freeD_av _ hr) ho1 ho2
    · have e := set_last ((Hd.map OD.ob).set j (rowsO hd (os.set p .dead)).ob) o1.ob o2.ob
      rw [hl] at e
      rwa [e] at this
    · rw [if_neg (by simp)]
      exact hρ.1 (.func f) _ rfl
    · rw [hargs]
      simp only [evs, if_true]
      rw [evs_congr (ρ := ρA) fun y hy => if_neg (notTmp_ne hnot y hy), hE]
    · simp only [renL, renA, if_true, renL_free _ (freeDs_av _ hfree)]
    · rw [← hl]; simp
theorem set_same {α : Type} {l : List α} {j : Nat} {a : α} (h : l[j]? = some a) : l.set j a = l := by
  apply List.ext_getElem?
  intro i
  rw [List.getElem?_set]
  split
  · rename_i hji; subst hji; rw [h]; simp [(List.getElem?_eq_some_iff.1 h).1]
  · rfl
theorem setOD_same : ∀ {H : List OD} {i : Nat} {o : OD}, getOD H i = some o → setOD H i o = H
  | a :: r, 0, o, h => by cases h; rfl
  | a :: r, n + 1, o, h => by
    have h : getOD r n = some o := h
    rw [setOD, setOD_same h]
/-- A call that is handed one of the rows and leaves it, as told, as it was. -/
theorem StepD.callMr {f : FuncId} {args : Array Operand} {ats : Array TypeId} {ds : List DV} {r : DV} {hd : List Value} {os : List OD} (j p : Nat) {o1 : OD} {n : Nat} {rest : List Operand} {v : Value} (hfn : LiftsO P f (.ob 0 :: ds) o1 r o1) (hp : os[p]? = some o1) (h1 : FlatO o1)
    (hargs : args.toList = .tmp n :: rest) (hn : evS tb.E fr (.tmp n) = some (.u v)) (hv : v = hdV (hd.getD p undef)) (hrest : evsD (evS tb.E fr) rest = some ds) (hnot : notTmp n rest = true) (hfree : freeDs ds = true) (hr : freeD r = true) (hH : getOD Hd j = some (rowsO hd os)) (hf : allFree Hd = true) (ho1 : o1.ob.free = true) :
    StepD P C tb fr ⟨d, .call { callee := .value (.func f), args := args, argTypes := ats }, t, ps, af, g⟩ Hd r Hd := by
  have h := StepD.callM (P := P) (C := C) (tb := tb) (fr := fr) (Hd := Hd) (d := d) (t := t) (ps := ps) (af := af) (g := g) (ats := ats) j p hfn hp h1 h1 hargs hn hv hrest hnot hfree hr hH hf ho1 ho1
  rwa [set_same hp, setOD_same hH] at h
open Classical in
/-- The address of an element of a row. -/
theorem StepD.addrM {T e e' : TypeId} {τ τ' : Ty} {bytes : Nat} {jj : Operand} {q : Int} {hd : List Value} {os : List OD} (j p : Nat) {xs : List τ.T} {n : Nat} {v : Value} (hp : os[p]? = some (.row e τ xs)) (h1 : FlatO (.row e τ xs)) (ok : TabOK P tb) (hT : findT tb.sl T = some (e', τ', bytes)) (hs : τ'.size = τ.size) (hb : 0 ≤ q ∧ q < xs.length)
    (hn : evS tb.E fr (.tmp n) = some (.u v)) (hv : v = hdV (hd.getD p undef)) (hq : evS tb.E fr jj = some (.i q)) (hnot : notTmp n [jj] = true) (hH : getOD Hd j = some (rowsO hd os)) (hf : allFree Hd = true) :
    StepD P C tb fr ⟨d, .indexAddr T (.tmp n) jj, t, ps, af, g⟩ Hd (.u (ptrOf v (q.toNat * τ.size + 0))) Hd := fun ρA hρ => by
  subst hv
  have hA := hρ.1 _ _ hn
  have hQ := hρ.1 _ _ hq
  have hHm := getOD_map hH
  have hl : ((Hd.map OD.ob).set j (rowsO hd (os.set p .dead)).ob).length = (Hd.map OD.ob).length := by simp
  have hpl : p < os.length := (List.getElem?_eq_some_iff.1 hp).1
  have key := VStep.focus (P := P) (C := C) (o := ⟨d, .indexAddr T (.tmp n) jj, t, ps, af, g⟩) (ρ := ρA) (ρ' := fun y => if y = .tmp n then some (.ob (Hd.map OD.ob).length) else ρA y) (o1 := .row e τ xs) (o2 := .row e τ xs) (r := (DV.u (ptrOf (hdV (hd.getD p undef)) (q.toNat * τ.size + 0))).av) (r' := .op (Hd.map OD.ob).length (q.toNat * τ.size + 0)) (allFree_ok hf) hHm hp h1 h1 (fun y _ b hb => by
      split at hb
      · rename_i hy
        subst hy
        cases hb
        exact .inr (.inl ⟨rfl, hA⟩)
      · exact .inl hb) (.inr ⟨_, rfl, rfl⟩) (by
    have hsl := (ok.sl _ (findT_mem hT)).1
    simp only at hsl
    rw [hs] at hsl
    exact VStep.indexAddrOI (gg := gT τ) (size := τ.size) (xs := xs) (e' := e) (by rw [if_pos rfl]) (by rw [if_neg (notTmp_ne hnot jj (by simp))]; exact hQ) (by rw [← hl]; simp; rfl) (gT_len τ) hsl hb)
  rwa [set_same hp, set_same hHm] at key
open Classical in
/-- An element of a row is read. -/
theorem StepD.loadM {T e : TypeId} {τ : Ty} {hd : List Value} {os : List OD} (j p : Nat) {xs : List τ.T} {n k c : Nat} {v : Value} {r : DV} (hp : os[p]? = some (.row e τ xs)) (h1 : FlatO (.row e τ xs)) (ok : TabOK P tb) (hT : hasT tb.scal T = true) (hr : cAt τ xs k c = some r) (hfr : freeD r = true) (hk : k < xs.length)
    (hn : evS tb.E fr (.tmp n) = some (.u (ptrOf v (k * τ.size + c)))) (hv : v = hdV (hd.getD p undef)) (hH : getOD Hd j = some (rowsO hd os)) (hf : allFree Hd = true) :
    StepD P C tb fr ⟨d, .load T (.tmp n), t, ps, af, g⟩ Hd r Hd := fun ρA hρ => by
  subst hv
  have hA := hρ.1 _ _ hn
  have hHm := getOD_map hH
  have hl : ((Hd.map OD.ob).set j (rowsO hd (os.set p .dead)).ob).length = (Hd.map OD.ob).length := by simp
  have key := VStep.focus (P := P) (C := C) (o := ⟨d, .load T (.tmp n), t, ps, af, g⟩) (ρ := ρA) (ρ' := fun y => if y = .tmp n then some (.op (Hd.map OD.ob).length (k * τ.size + c)) else ρA y) (o1 := .row e τ xs) (o2 := .row e τ xs) (r := r.av) (r' := r.av) (allFree_ok hf) hHm hp h1 h1 (fun y _ b hb => by
      split at hb
      · rename_i hy
        subst hy
        cases hb
        exact .inr (.inr ⟨_, rfl, hA, based_row (by omega)⟩)
      · exact .inl hb) (.inl ⟨rfl, freeD_av _ hfr⟩) (by
    rw [cAt_eq] at hr
    have hs := (ok.scal _ (hasT_mem hT)).1
    refine VStep.loadO (gg := gT τ) (size := τ.size) (xs := xs) (k := k) (j := c) (o := .row e τ.size (xs.flatMap (gT τ))) (by rw [if_pos rfl]) (by rw [← hl]; simp; rfl) rfl hs (gT_len τ) hk ?_
    rw [← getD_get hk (dT τ)]
    exact cT_spec _ _ _ _ hr)
  rwa [set_same hp, set_same hHm] at key
open Classical in
/-- An element of a row is written. -/
theorem StepD.storeM {T e : TypeId} {τ : Ty} {hd : List Value} {os : List OD} (j p : Nat) {xs : List τ.T} {n k c : Nat} {v : Value} {y : Operand} {a : DV} {q : τ.T} (hp : os[p]? = some (.row e τ xs)) (h1 : ∀ ys : List τ.T, FlatO (.row e τ ys)) (ok : TabOK P tb) (hT : hasT tb.scal T = true) (hq : sT τ xs k c a = some q) (hk : k < xs.length)
    (hn : evS tb.E fr (.tmp n) = some (.u (ptrOf v (k * τ.size + c)))) (hv : v = hdV (hd.getD p undef)) (hy : evS tb.E fr y = some a) (hnot : notTmp n [y] = true) (hH : getOD Hd j = some (rowsO hd os)) (hf : allFree Hd = true) :
    StepD P C tb fr ⟨d, .store T (.tmp n) y, t, ps, af, g⟩ Hd (.u undef) (setOD Hd j (rowsO hd (os.set p (.row e τ (xs.set k q))))) := fun ρA hρ => by
  subst hv
  have hA := hρ.1 _ _ hn
  have hY := hρ.1 _ _ hy
  have hHm := getOD_map hH
  rw [setOD_map]
  have hl : ((Hd.map OD.ob).set j (rowsO hd (os.set p .dead)).ob).length = (Hd.map OD.ob).length := by simp
  refine VStep.focus (P := P) (C := C) (o := ⟨d, .store T (.tmp n) y, t, ps, af, g⟩) (ρ := ρA) (ρ' := fun y => if y = .tmp n then some (.op (Hd.map OD.ob).length (k * τ.size + c)) else ρA y) (o1 := .row e τ xs) (o2 := .row e τ (xs.set k q)) (r := (DV.u undef).av) (r' := (DV.u undef).av) (allFree_ok hf) hHm hp (h1 _) (h1 _) (fun y _ b hb => by
      split at hb
      · rename_i hy
        subst hy
        cases hb
        exact .inr (.inr ⟨_, rfl, hA, based_row (by omega)⟩)
      · exact .inl hb) (.inl ⟨rfl, rfl⟩) ?_
  obtain ⟨g1, g2, g3⟩ := sT_spec hq
  have hs := (ok.scal _ (hasT_mem hT)).2
  have := VStep.storeO (P := P) (C := C) (d := d) (t := t) (p := ps) (af := af) (g := g) (ρ := fun y => if y = .tmp n then some (.op (Hd.map OD.ob).length (k * τ.size + c)) else ρA y) (H := (Hd.map OD.ob).set j (rowsO hd (os.set p .dead)).ob ++ [(OD.row e τ xs).ob]) (x := .tmp n) (y := y) (T := T)
    (gg := gT τ) (size := τ.size) (xs := xs) (k := k) (j := c) (i := (Hd.map OD.ob).length) (o := .row e τ.size (xs.flatMap (gT τ))) (a := a.av) (q := q) (by rw [if_pos rfl]) (by rw [if_neg (notTmp_ne hnot y (by simp))]; exact hY) (by rw [← hl]; simp; rfl) rfl hs g3 (gT_len τ) g2 hk (by rw [← getD_get hk (dT τ)]; exact g1)
  have e9 := set_last ((Hd.map OD.ob).set j (rowsO hd (os.set p .dead)).ob) (OD.row e τ xs).ob (OD.row e τ (xs.set k q)).ob
  rw [hl] at e9
  have e3 : (Ob.row e τ.size (xs.flatMap (gT τ))).withCells ((xs.set k q).flatMap (gT τ)) = (OD.row e τ (xs.set k q)).ob := rfl
  rw [e3, e9] at this
  exact this

/-! ### Headers -/

/-- A slice of headers, all nil. -/
theorem StepD.makeV {T e : TypeId} {τ : Ty} {bytes : Nat} {x y : Operand} {n : Int} (ok : TabOK P tb) (hT : findT tb.sl T = some (e, τ, bytes)) (hm : findT tb.made T = some (e, .slice none 0 0)) (hs : τ.size = 1) (hx : evS tb.E fr x = some (.i n)) (hy : evS tb.E fr y = some (.i n)) (hb : 0 ≤ n ∧ n ≤ 281474976710656 ∧ bytes * n.toNat ≤ 281474976710656) :
    StepD P C tb fr ⟨d, .makeSlice T x y, t, ps, af, g⟩ Hd (.ob (lenOD Hd)) (Hd ++ [.row e .val (List.replicate n.toNat (.slice none 0 0 : Value))]) := fun ρA hρ => by
  obtain ⟨n, rfl⟩ := Int.eq_ofNat_of_zero_le hb.1
  have hA := (ok.sl _ (findT_mem hT)).2
  simp only at hA
  rw [hs] at hA
  have := VStep.make (P := P) (C := C) (H := Hd.map OD.ob) (d := d) (t := t) (p := ps) (af := af) (g := g) (gg := gT .val) (T := T) (e := e) (bytes := bytes) (n := n) (z := .slice none 0 0) (.slice none 0 0 : Value) (hρ.1 _ _ hx) (hρ.1 _ _ hy) hA (ok.made _ (findT_mem hm)) rfl rfl (by simpa using hb.2.2) (by have := hb.2.1; unfold maxLen; omega)
  rw [List.map_append, lenOD_map]
  rw [Int.toNat_natCast]
  exact this
/-- A row of the call's own is laid under a header. -/
theorem StepD.storeH {T e : TypeId} {x y : Operand} {m i k : Nat} {xs : List Value} (ok : TabOK P tb) (hT : hasT tb.scal T = true) (hx : evS tb.E fr x = some (.of m .val i 0)) (hy : evS tb.E fr y = some (.ob k)) (hH : getOD Hd m = some (.row e .val xs)) (hi : i < xs.length) :
    StepD P C tb fr ⟨d, .store T x y, t, ps, af, g⟩ Hd (.u undef) (setOD Hd m (.raw (.row e 1 (((xs : List (Ty.val).T).flatMap (gT .val)).set i (.ob k))))) := fun ρA hρ => by
  rw [setOD_map]
  have := VStep.storeAt (P := P) (C := C) (d := d) (t := t) (p := ps) (af := af) (g := g) (ρ := ρA) (H := Hd.map OD.ob) (T := T) (x := x) (y := y) (c := i * 1 + 0) (hρ.1 _ _ hx) (hρ.1 _ _ hy) (getOD_map hH) (cs := (xs : List (Ty.val).T).flatMap (gT .val)) rfl (ok.scal _ (hasT_mem hT)).2 rfl (by rw [vals_map (τ := .val) hdV (fun _ => rfl) xs]; simpa using hi)
  rw [Nat.mul_one, Nat.add_zero] at this
  exact this

variable {Q : Exit → DF → List OD → Prop} {c : Code}
/-- No rows yet: an object that owns nothing. -/
theorem AWPD.rows0 (hd : List Value) (h : AWPD P C c Q fr (Hd ++ [rowsO hd (List.replicate hd.length .dead)])) : AWPD P C c Q fr Hd := by
  refine AWP.conv (s' := ⟨frA fr, (Hd ++ [rowsO hd (List.replicate hd.length .dead)]).map OD.ob⟩) (fun rd a w ⟨V, F, m, hd', hsz, hf⟩ => ?_) h
  obtain ⟨m1, e1⟩ := m.push (w' := w) (rowsO hd (List.replicate hd.length .dead)).ob [] (.slice none 0 0) rfl rfl rfl rfl (Nat.le_refl _) (fun _ _ => rfl) (fun b hb => by cases hb) (fun _ => orep_rows.2 ⟨List.replicate hd.length [], ⟨by simp, by simp, fun i o f ho hf => by
    have h1 := mem_of_get ho
    have h2 := mem_of_get hf
    rw [List.mem_replicate] at h1 h2
    rw [h1.2, h2.2]
    exact orep_dead.2 rfl, fun i j f g b hi _ hb _ => by
    have h2 := mem_of_get hi
    rw [List.mem_replicate] at h2
    rw [h2.2] at hb
    cases hb⟩, by simp⟩)
  exact ⟨_, _, by rw [List.map_append]; exact m1, hd'.ext e1, hsz, hf.ext e1⟩

theorem vreps_set {ok : Nat → Prop} {V : List Value} {xs : List Value} {k i : Nat} {us : List Value} {x : Value} (hx : V[k]? = some x) (hone : x.oneCell' = true) (h : VReps ok w V (((xs : List (Ty.val).T).flatMap (gT .val)).set i (.ob k)) us) : VReps ok w V (((xs.set i x : List Value) : List (Ty.val).T).flatMap (gT .val)) us := by
  rw [vals_map (τ := .val) hdV (fun _ => rfl)] at h ⊢
  refine VReps.mk (by rw [h.length]; simp) fun n a u ha hu => ?_
  rw [List.getElem?_map, List.getElem?_map, List.getElem?_set] at ha
  by_cases hin : i = n
  · subst hin
    rw [if_pos rfl] at ha
    split at ha
    · rename_i hlt
      simp only [Option.map_some, Option.some.injEq] at ha
      subst ha
      obtain ⟨z, hz, hr⟩ := h.get i (.ob k) (by rw [List.getElem?_set, if_pos rfl, if_pos (by simpa using hlt)])
      rw [hu] at hz
      cases hz
      unfold VRep at hr
      rw [hx] at hr
      cases hr
      exact VRep.v_iff.2 (hdV_id hone).symm
    · cases ha
  · rw [if_neg hin] at ha
    obtain ⟨z, hz, hr⟩ := h.get n a (by rw [List.getElem?_set, if_neg hin, List.getElem?_map, List.getElem?_map]; exact ha)
    rw [hu] at hz
    cases hz
    exact hr

/-- What was laid under header p is one of the rows now. -/
theorem AWPD.absorb {e : TypeId} {xs : List Value} {os : List OD} (m j k p : Nat) {o : OD} (hmj : m ≠ j) (hmk : m ≠ k) (hjk : j ≠ k) (hm : getOD Hd m = some (.raw (.row e 1 (((xs : List (Ty.val).T).flatMap (gT .val)).set p (.ob k))))) (hj : getOD Hd j = some (rowsO xs os)) (hk : getOD Hd k = some o) (hp : os[p]? = some .dead) (hpx : p < xs.length) (hfl : FlatO o)
    (h : ∀ x : Value, AWPD P C c Q fr (setOD (setOD (setOD Hd m (.row e .val (xs.set p x))) j (rowsO (xs.set p x) (os.set p o))) k .dead)) : AWPD P C c Q fr Hd := by
  intro rd a w ⟨V, F, mm, hdf, hsz, hf⟩
  obtain ⟨x, fk, hx, hFk, hok⟩ := mm.get (getOD_map hk)
  have hone := mm.one k x hx
  have gm : ((Hd.map OD.ob).set m (OD.row e .val (xs.set p x)).ob)[j]? = some (rowsO xs os).ob := by rw [List.getElem?_set, if_neg hmj]; exact getOD_map hj
  have gk : ((Hd.map OD.ob).set m (OD.row e .val (xs.set p x)).ob)[k]? = some o.ob := by rw [List.getElem?_set, if_neg hmk]; exact getOD_map hk
  have m1 : Mem C ((Hd.map OD.ob).set m (OD.row e .val (xs.set p x)).ob) V F w := by
    refine ⟨mm.os, mm.tape, mm.output, mm.size, mm.kept, by rw [mm.lenV]; simp, by rw [mm.lenF]; simp, fun i o' y f h1 h2 h3 => ?_, mm.one, mm.apart, mm.own, mm.car⟩
    rw [List.getElem?_set] at h1
    split at h1
    · rename_i hmi
      subst hmi
      split at h1
      · cases h1
        have h4 := mm.obs m _ y f (getOD_map hm) h2 h3
        have h4 : ORep (okB C w F) w V y f (.row e 1 (((xs : List (Ty.val).T).flatMap (gT .val)).set p (.ob k))) := h4
        show ORep (okB C w F) w V y f (.row e 1 (((xs.set p x : List Value) : List (Ty.val).T).flatMap (gT .val)))
        unfold ORep at h4 ⊢
        obtain ⟨g0, n, us, g1, g2, g3, g4⟩ := h4
        refine ⟨g0, n, us, g1, ?_, vreps_set hx hone g3, g4⟩
        rw [vals_map (τ := .val) hdV (fun _ => rfl)] at g2 ⊢
        simpa using g2
      · cases h1
    · exact mm.obs i o' y f h1 h2 h3
  obtain ⟨F2, m2, e2⟩ := m1.merge (hd' := xs.set p x) hjk gm gk hp hfl hx (by simp) (fun i hi => by
      simp only [List.getD_eq_getElem?_getD, List.getElem?_set]
      rw [if_neg (fun e => hi e.symm)]) (by
      simp only [List.getD_eq_getElem?_getD, List.getElem?_set]
      simp [hpx, hdV_id hone])
  refine h x rd a w ⟨V, F2, ?_, hdf.ext e2, hsz, hf.ext e2⟩
  rw [setOD_map, setOD_map, setOD_map]
  exact m2
end
end Go.Qw
