/-
  An abstract machine over the model's own code, part U: queues; contracts of functions that turn an object that came in, or hand out a new one. No program is named here.
-/
import Derived.Test.YtmeacgkhabnjlaaDoorQwT
set_option linter.unusedSimpArgs false
set_option linter.unusedVariables false
set_option linter.unusedSectionVars false
namespace Go.Qw
open Go.RowKit

/-! ### Queues: what was found, each once, with its place -/

def cellsV (τ : Ty) (xs : List τ.T) : List Value := xs.flatMap fun x => (keyL τ x).map (.int .i64)
theorem gT_keyL {τ : Ty} (h : keyed τ = true) (x : τ.T) : gT τ x = (keyL τ x).map iv := by
  cases τ with
  | int => rfl
  | two => rfl
  | tup n =>
    simp only [gT, keyL, List.map_map]
    rfl
  | bool => cases h
  | sl _ => cases h
  | val => cases h
theorem flat_cells {τ : Ty} (h : keyed τ = true) : ∀ xs : List τ.T, xs.flatMap (gT τ) = (cellsV τ xs).map .v
  | [] => rfl
  | x :: xs => by
    simp only [cellsV, List.flatMap_cons, List.map_append]
    have ih := flat_cells h xs
    unfold cellsV at ih
    rw [ih, gT_keyL h x, List.map_map]
    rfl
def queR (T e : TypeId) (τ : Ty) (xs : List τ.T) (w : World) (x : Value) (f : List Nat) : Prop :=
  ∃ g, x = .pointer (some ⟨g, 0, none⟩) ∧ ((xs = [] ∧ f = [g] ∧ w.heap[g]? = some (.cells #[.map none, .slice none 0 0] T (0, 0))) ∨
    ∃ r sv n, w.heap[g]? = some (.cells #[.map (some r), sv] T (0, 0)) ∧ w.heap[r]? = some (.map (entsF τ 0 xs).toArray xs.length) ∧ w.ownsRow 0 e τ.size sv n (cellsV τ xs) ∧ (xs.flatMap (gT τ)).length = n * τ.size ∧ sv.oneCell' = true ∧
      f = g :: r :: sv.ownBlock.toList ∧ f.Nodup)
theorem queR_stays {T e : TypeId} {τ : Ty} {xs : List τ.T} {x : Value} {f : List Nat} (w₁ w₂ : World) (hb : ∀ b ∈ f, w₂.heap[b]? = w₁.heap[b]?) (h : queR T e τ xs w₁ x f) : queR T e τ xs w₂ x f := by
  obtain ⟨g, hx, h⟩ := h
  refine ⟨g, hx, ?_⟩
  rcases h with ⟨h1, h2, h3⟩ | ⟨r, sv, n, h1, h2, h3, h4, h5, h6, h7⟩
  · exact .inl ⟨h1, h2, by rw [hb g (by rw [h2]; simp)]; exact h3⟩
  · exact .inr ⟨r, sv, n, by rw [hb g (by rw [h6]; simp)]; exact h1, by rw [hb r (by rw [h6]; simp)]; exact h2, ownsRow_of_blocks h3 (fun b hbm => hb b (by rw [h6]; simp [hbm])), h4, h5, h6, h7⟩
abbrev OD.que (T e : TypeId) (τ : Ty) (xs : List τ.T) : OD := .cust (queR T e τ xs)

section
variable {P : Program} {C : Ctx} {tb : Tab} {Q : Exit → DF → List OD → Prop} {fr : DF} {H : List OD}

/-- The same memory, its objects told otherwise. -/
theorem Mem.retell {H H' : List Ob} {V V' : List Value} {F F' : List (List Nat)} {w : World} (m : Mem C H V F w) (lenV : V'.length = H'.length) (lenF : F'.length = H'.length) (hV : ∀ (i : Nat) (x : Value), V[i]? = some x → V'[i]? = some x)
    (hF : ∀ f' ∈ F', ∀ b ∈ f', ∃ f ∈ F, b ∈ f) (hap : ∀ (i j : Nat) (f g : List Nat) (b : Nat), F'[i]? = some f → F'[j]? = some g → b ∈ f → b ∈ g → i = j) (hone : ∀ (i : Nat) (x : Value), V'[i]? = some x → x.oneCell' = true)
    (hob : Ext C V F w V' F' w → ∀ (i : Nat) (o : Ob) (x : Value) (f : List Nat), H'[i]? = some o → V'[i]? = some x → F'[i]? = some f → ORep (okB C w F') w V' x f o) : Mem C H' V' F' w ∧ Ext C V F w V' F' w :=
  m.upd rfl rfl rfl (Nat.le_refl _) (fun _ _ _ => rfl) lenV lenF hV (fun f' hf' b hb => by
    obtain ⟨f, hf, hbf⟩ := hF f' hf' b hb
    exact ⟨(m.own f hf b hbf).1, .inl ⟨f, hf, hbf⟩⟩) hap hone (fun e i o x f h1 h2 h3 => .inr (hob e i o x f h1 h2 h3))

theorem AWPD.openQ {c : Code} {T e : TypeId} {τ : Ty} {xs : List τ.T} (hτ : keyed τ = true) (hs : 0 < τ.size) (h1 : xs = [] → AWPD P C c Q fr [.box T [.u (.map none), .nil]]) (h2 : AWPD P C c Q fr [.box T [.ob 1, .ob 2], .cust (mapR τ xs), .row e τ xs]) :
    AWPD P C c Q fr [.que T e τ xs] := by
  rintro rd a w ⟨V, F, m, hd, hsz, hf⟩
  obtain ⟨x, f, hx, hfx, ho⟩ := m.get (i := 0) (o := .cust (queR T e τ xs)) rfl
  have hV1 : V = [x] := by
    have hl : V.length = 1 := m.lenV
    match V, hl, hx with
    | [z], _, hx => simp at hx; rw [hx]
  have hF1 : F = [f] := by
    have hl : F.length = 1 := m.lenF
    match F, hl, hfx with
    | [z], _, hx => simp at hx; rw [hx]
  subst hV1 hF1
  unfold ORep at ho
  obtain ⟨_, g, rfl, hq⟩ := ho
  rcases hq with ⟨he, rfl, hg⟩ | ⟨r, sv, n, hg, hr, hrow, hlen, hsv, rfl, hnd⟩
  · refine h1 he rd a w ?_
    obtain ⟨m', e'⟩ := m.retell (H' := [OD.ob (.box T [.u (.map none), .nil])]) (V' := [.pointer (some ⟨g, 0, none⟩)]) (F' := [[g]]) rfl rfl (fun _ _ h => h) (fun f' hf' b hb => ⟨f', hf', hb⟩) m.apart m.one
      (fun _ i o y q e1 e2 e3 => by
        cases i with
        | succ i => simp at e1
        | zero =>
          simp at e1 e2 e3
          subst e1 e2 e3
          unfold OD.ob ORep
          refine ⟨g, _, rfl, hg, ?_, rfl⟩
          exact VReps.vals [.map none, .slice none 0 0])
    exact ⟨_, _, m', hd.ext e', hsz, hf.ext e'⟩
  · refine h2 rd a w ?_
    obtain ⟨hn1, hn2⟩ := List.nodup_cons.1 hnd
    obtain ⟨hn3, hn4⟩ := List.nodup_cons.1 hn2
    obtain ⟨m', e'⟩ := m.retell (H' := [OD.ob (.box T [.ob 1, .ob 2]), OD.ob (.cust (mapR τ xs)), OD.ob (.row e τ xs)]) (V' := [.pointer (some ⟨g, 0, none⟩), .map (some r), sv]) (F' := [[g], [r], sv.ownBlock.toList]) rfl rfl
      (fun i y h => by
        cases i with
        | zero => simpa using h
        | succ i => simp at h)
      (fun f' hf' b hb => ⟨g :: r :: sv.ownBlock.toList, by simp, by
        simp at hf'
        rcases hf' with rfl | rfl | rfl
        · simp at hb; subst hb; simp
        · simp at hb; subst hb; simp
        · simp; exact .inr (.inr (by simpa using hb))⟩)
      (fun i j q q' b e1 e2 e3 e4 => by
        match i, j, e1, e2 with
        | 0, 0, _, _ => rfl
        | 1, 1, _, _ => rfl
        | 2, 2, _, _ => rfl
        | 0, 1, e1, e2 => simp at e1 e2; subst e1 e2; simp at e3 e4; subst e3; exact absurd (by rw [← e4]; simp) hn1
        | 1, 0, e1, e2 => simp at e1 e2; subst e1 e2; simp at e3 e4; subst e4; exact absurd (by rw [← e3]; simp) hn1
        | 0, 2, e1, e2 => simp at e1 e2; subst e1 e2; simp only [List.mem_singleton] at e3; subst e3; exact absurd (List.mem_cons_of_mem _ e4) hn1
        | 2, 0, e1, e2 => simp at e1 e2; subst e1 e2; simp only [List.mem_singleton] at e4; subst e4; exact absurd (List.mem_cons_of_mem _ e3) hn1
        | 1, 2, e1, e2 => simp at e1 e2; subst e1 e2; simp only [List.mem_singleton] at e3; subst e3; exact absurd e4 hn3
        | 2, 1, e1, e2 => simp at e1 e2; subst e1 e2; simp only [List.mem_singleton] at e4; subst e4; exact absurd e3 hn3
        | i + 3, _, e1, _ => simp at e1
        | _, j + 3, _, e2 => simp at e2)
      (fun i y h => by
        match i, h with
        | 0, h => simp at h; subst h; rfl
        | 1, h => simp at h; subst h; rfl
        | 2, h => simp at h; subst h; exact hsv
        | i + 3, h => simp at h)
      (fun e0 i o y q e1 e2 e3 => by
        match i, e1, e2, e3 with
        | 0, e1, e2, e3 =>
          simp at e1 e2 e3
          subst e1 e2 e3
          unfold OD.ob ORep
          refine ⟨g, _, rfl, hg, ?_, rfl⟩
          simp only [DV.avs, DV.av]
          unfold VReps VReps VReps VRep
          exact ⟨_, _, rfl, by simp, _, _, rfl, by simp, rfl⟩
        | 1, e1, e2, e3 =>
          simp at e1 e2 e3
          subst e1 e2 e3
          unfold OD.ob ORep
          exact ⟨fun w₁ w₂ => mapR_stays w₁ w₂, r, rfl, rfl, hr⟩
        | 2, e1, e2, e3 =>
          simp at e1 e2 e3
          subst e1 e2 e3
          unfold OD.ob ORep
          refine ⟨hs, n, cellsV τ xs, hrow, hlen, ?_, by simp⟩
          rw [flat_cells hτ]
          exact VReps.vals _
        | i + 3, e1, _, _ => simp at e1)
    exact ⟨_, _, m', hd.ext e', hsz, hf.ext e'⟩
/-- A new queue. -/
theorem AWPD.newQ {c : Code} (i : Nat) {T : TypeId} (e : TypeId) (τ : Ty) (hH : getOD H i = some (.box T [.u (.map none), .nil])) (h : AWPD P C c Q fr (setOD H i (.que T e τ []))) : AWPD P C c Q fr H := by
  rintro rd a w ⟨V, F, m, hd, hsz, hf⟩
  refine h rd a w ?_
  obtain ⟨x, f, hx, hfx, ho⟩ := m.get (getOD_map hH)
  refine ⟨V, F, ?_, hd, hsz, hf⟩
  rw [setOD_map]
  refine (m.retell (by simp [m.lenV]) (by simp [m.lenF]) (fun _ _ h => h) (fun f' hf' b hb => ⟨f', hf', hb⟩) m.apart m.one (fun _ j o y q e1 e2 e3 => ?_)).1
  rw [List.getElem?_set] at e1
  split at e1
  · rename_i hij
    subst hij
    split at e1
    · cases e1
      rw [hx] at e2
      rw [hfx] at e3
      cases e2
      cases e3
      unfold OD.ob ORep at ho
      obtain ⟨g, us, rfl, hg, hr, rfl⟩ := ho
      unfold OD.ob ORep
      refine ⟨fun w₁ w₂ => queR_stays w₁ w₂, g, rfl, .inl ⟨rfl, rfl, ?_⟩⟩
      have : us.toList = [.map none, .slice none 0 0] := VReps.vals_eq hr
      rw [hg, ← Array.toArray_toList (xs := us), this]
    · cases e1
  · exact m.obs j o y q e1 e2 e3

theorem row_free (e : TypeId) (τ : Ty) (xs : List τ.T) : (OD.row e τ xs).ob.free = true := by
  simp only [OD.ob, Ob.free]
  exact frees_flatMap (gT_free τ) xs

/-! ### Contracts -/

def LiftsO (P : Program) (f : FuncId) (as : List DV) (o : OD) (r : DV) (o' : OD) : Prop := Lifts P f (DV.avs as) [o.ob] r.av [o'.ob]
def LiftsN (P : Program) (f : FuncId) (as : List DV) (o : OD) : Prop := Lifts P f (DV.avs as) [] (.ob 0) [o.ob]

/-- The object that came in, behind the body. -/
def FoldO (H : List OD) (o' : Ob) : Prop := ∀ (C : Ctx) (V : List Value) (F : List (List Nat)) (w : World), Mem C (H.map OD.ob) V F w → ∀ x, V[0]? = some x →
  ∃ F1 : List Nat, (∀ b ∈ F1, ∃ f ∈ F, b ∈ f) ∧ ∀ (ok : Nat → Prop) (V' : List Value), (∀ b, okB C w F b → ok b) → ORep ok w V' x F1 o'
theorem FoldO.at0 {o' : OD} (h : getOD H 0 = some o') (hfree : o'.ob.free = true) : FoldO H o'.ob := fun C V F w m x hx => by
  obtain ⟨y, f, hy, hf, ho⟩ := m.get (getOD_map h)
  rw [hx] at hy
  cases hy
  exact ⟨f, fun b hb => ⟨f, mem_of_get hf, hb⟩, fun ok V' hok => (ho.anyV _ hfree (V' := V')).ext (fun _ _ h => h) (fun b hb => ⟨hok b hb, rfl⟩) (fun _ _ => rfl) _⟩
theorem FoldO.que {T e : TypeId} {τ : Ty} {xs : List τ.T} {i j : Nat} (hτ : keyed τ = true) (h0 : getOD H 0 = some (.box T [.ob i, .ob j])) (hi : getOD H i = some (.cust (mapR τ xs))) (hj : getOD H j = some (.row e τ xs)) : FoldO H (.cust (queR T e τ xs)) := fun C V F w m x hx => by
  obtain ⟨y, f, hy, hf, ho⟩ := m.get (getOD_map h0)
  rw [hx] at hy
  cases hy
  obtain ⟨mv, f1, hmv, hf1, ho1⟩ := m.get (getOD_map hi)
  obtain ⟨sv, f2, hsv, hf2, ho2⟩ := m.get (getOD_map hj)
  have n01 : (0 : Nat) ≠ i := fun h => by subst h; rw [h0] at hi; cases hi
  have n02 : (0 : Nat) ≠ j := fun h => by subst h; rw [h0] at hj; cases hj
  have n12 : i ≠ j := fun h => by subst h; rw [hi] at hj; cases hj
  have hone := m.one j sv hsv
  unfold OD.ob ORep at ho ho1 ho2
  obtain ⟨g, us, rfl, hg, hr, rfl⟩ := ho
  obtain ⟨_, r, rfl, rfl, hrm⟩ := ho1
  obtain ⟨hs, n, us2, hrow, hlen, hvs, rfl⟩ := ho2
  rw [flat_cells hτ] at hvs
  have hus2 := VReps.vals_eq hvs
  subst hus2
  have hus : us = #[.map (some r), sv] := by
    simp only [DV.avs, DV.av] at hr
    unfold VReps VReps VReps VRep at hr
    obtain ⟨u1, q1, e1, h1, u2, q2, e2, h2, e3⟩ := hr
    rw [hmv] at h1
    rw [hsv] at h2
    cases h1
    cases h2
    subst e2 e3
    rw [← Array.toArray_toList (xs := us), e1]
  subst hus
  have nod : (g :: r :: sv.ownBlock.toList).Nodup := by
    refine List.nodup_cons.2 ⟨fun hm => ?_, List.nodup_cons.2 ⟨fun hm => ?_, ?_⟩⟩
    · rcases List.mem_cons.1 hm with h | h
      · exact n01 (m.apart 0 i [g] [r] g hf hf1 (by simp) (by simp [h]))
      · exact n02 (m.apart 0 j [g] _ g hf hf2 (by simp) h)
    · exact n12 (m.apart i j [r] _ r hf1 hf2 (by simp) hm)
    · cases sv.ownBlock <;> simp
  refine ⟨g :: r :: sv.ownBlock.toList, fun b hb => ?_, fun ok V' _ => ?_⟩
  · rcases List.mem_cons.1 hb with h | hb
    · exact ⟨[g], mem_of_get hf, by simp [h]⟩
    · rcases List.mem_cons.1 hb with h | hb
      · exact ⟨[r], mem_of_get hf1, by simp [h]⟩
      · exact ⟨_, mem_of_get hf2, hb⟩
  · unfold ORep
    exact ⟨fun w₁ w₂ => queR_stays w₁ w₂, g, rfl, .inr ⟨r, sv, n, hg, hrm, hrow, hlen, hone, rfl, nod⟩⟩

theorem FoldO.queNil {T e : TypeId} {τ : Ty} (h0 : getOD H 0 = some (.box T [.u (.map none), .nil])) : FoldO H (.cust (queR T e τ [])) := fun C V F w m x hx => by
  obtain ⟨y, f, hy, hf, ho⟩ := m.get (getOD_map h0)
  rw [hx] at hy
  cases hy
  unfold OD.ob ORep at ho
  obtain ⟨g, us, rfl, hg, hr, rfl⟩ := ho
  refine ⟨[g], fun b hb => ⟨[g], mem_of_get hf, hb⟩, fun ok V' _ => ?_⟩
  unfold ORep
  refine ⟨fun w₁ w₂ => queR_stays w₁ w₂, g, rfl, .inl ⟨rfl, rfl, ?_⟩⟩
  have : us.toList = [.map none, .slice none 0 0] := VReps.vals_eq hr
  rw [hg, ← Array.toArray_toList (xs := us), this]

def fitF : Option DV → DV → Prop
  | some d, r => flatD d = true ∧ fitD d r ∧ flatD r = true
  | none, _ => False
/-- What a function gives back that holds no memory. -/
def RetF (fr : DF) : List ResultVar → DV → Prop
  | [], r => r = .tup []
  | [.tmp t], r => fitF (lookD fr t) r
  | [.tmp t, .tmp u], .tup [r1, r2] => fitF (lookD fr t) r1 ∧ fitF (lookD fr u) r2
  | _, _ => False
theorem fitF_rep {V : List Value} {F : List (List Nat)} {w : World} {a : Act} (hf : Frm C (frA fr) V F a w) {ok' : Nat → Prop} {V' : List Value} {t : Nat} {r : DV} (h : fitF (lookD fr t) r) : VRep ok' w V' r.av (a.tmps.getD t undef) := by
  unfold fitF at h
  split at h
  · rename_i d hl
    obtain ⟨x, hx, hr⟩ := hf t d.av (by rw [frA_look, hl]; rfl)
    have : a.tmps.getD t undef = x := by simp [hx]
    rw [this]
    exact (fitD_rep h.2.1 hr).flat _ _ (flatD_flat _ h.2.2)
  · cases h
theorem RetF_rep {fn : Func} {l : List ResultVar} {r : DV} (hl : fn.results.toList = l) {V : List Value} {F : List (List Nat)} {w : World} {a : Act} (hf : Frm C (frA fr) V F a w) {ok' : Nat → Prop} {V' : List Value} (h : RetF fr l r) :
    ∃ u, (results fn a.tmps).run P w = .ok u w ∧ VRep ok' w V' r.av u := by
  have hl' : fn.results = l.toArray := by rw [← hl]
  unfold RetF at h
  split at h
  · subst h
    refine ⟨.tuple #[], by simp [results, hl'], ?_⟩
    unfold DV.av DV.avs VRep VReps
    exact ⟨_, rfl, rfl⟩
  · exact ⟨_, results_tmp hl' _ _ _, fitF_rep hf h⟩
  · refine ⟨_, results_tmp2 hl' _ _ _, ?_⟩
    simp only [DV.av, DV.avs]
    unfold VRep VReps VReps VReps
    exact ⟨_, rfl, _, _, rfl, fitF_rep hf h.1, _, _, rfl, fitF_rep hf h.2, rfl⟩
  · cases h

theorem LiftsO.of_bodyG {f : FuncId} {fn : Func} {c : Code} {as : List DV} {o : OD} {r : DV} {o' : OD} (N : Nat) (R : DF → List OD → Prop) (hf : P.funcs[f]? = some fn) (hb : fn.body = some c) (hN : fn.ntmps = N) (hname : (fn.name == "runtime.NumGoroutine") = false)
    (hn : Nat.ble (lenL as) N = true) (hR : ∀ {C : Ctx} {V : List Value} {F : List (List Nat)} {w : World} {a : Act} {fr : DF} {H : List OD}, Mem C (H.map OD.ob) V F w → Frm C (frA fr) V F a w → R fr H → ∀ (ok' : Nat → Prop) (V' : List Value), ∃ u, (results fn a.tmps).run P w = .ok u w ∧ VRep ok' w V' r.av u)
    (h : ∀ (w0 : World) (X0 : Nat → Prop) (F0 : List Nat) (x0 : Value), AWPD P ⟨w0, X0, F0, [x0], N⟩ c (fun e fr H => (e = .ret ∨ e = .normal) ∧ R fr H ∧ FoldO H o'.ob) (argD 0 as) [o]) : LiftsO P f as o r o' := by
  subst hN
  refine ⟨⟨fn, hf, hname, by rw [hb]; rfl⟩, fun w X V F vs m hvs => ?_⟩
  obtain ⟨x0, hV⟩ : ∃ x0, V = [x0] := by
    have hl : V.length = 1 := m.lenV
    match V, hl with
    | [z], _ => exact ⟨z, rfl⟩
  subst hV
  have hlen : vs.size = as.length := by have := hvs.length; rw [avs_len] at this; simpa using this
  have hn' : as.length ≤ fn.ntmps := by rw [← lenL_eq]; exact Nat.le_of_ble_eq_true hn
  have m0 : Mem ⟨w, X, F.flatten, [x0], fn.ntmps⟩ [o.ob] [x0] F w := Mem.ctx (C := ⟨w, X, F.flatten, [x0], 0⟩) rfl rfl rfl rfl m
  refine calls_of_AWP hf hb (h w X F.flatten x0) ⟨[x0], F, m0, DefOK.nil _ _ _, by simp [hlen]; omega, fun t av ht => ?_⟩ fun e a' w' ⟨s', ⟨fr', H', ⟨he, hr, hfo⟩, hs⟩, V', F', m', hdef, hsz, hfr⟩ => ?_
  · simp only [argD_frA] at ht
    obtain ⟨_, h2⟩ := argsF_look _ 0 t av ht
    obtain ⟨x, hx, hv⟩ := hvs.get _ _ h2
    refine ⟨x, ?_, hv⟩
    have hlt : t < vs.size := by
      have := (List.getElem?_eq_some_iff.1 hx).1
      simpa using this
    rw [Array.getElem?_append_left hlt]
    simpa using hx
  · subst hs
    have hx0 : V'[0]? = some x0 := m'.car 0 x0 rfl
    obtain ⟨F1, hF1, hO⟩ := hfo _ V' F' w' m' x0 hx0
    have hown : ∀ b ∈ F1, b < w'.heap.size ∧ (b ∈ F.flatten ∨ w.heap.size ≤ b) := fun b hb => by
      obtain ⟨q, hq, hbq⟩ := hF1 b hb
      exact m'.own q hq b hbq
    have hsub : ∀ b, okB ⟨w, X, F.flatten, [x0], fn.ntmps⟩ w' F' b → okB ⟨w, X, F.flatten, [x0], 0⟩ w' [F1] b := fun b hb => ⟨hb.1, hb.2.1, fun q hq hbq => by
      simp at hq
      subst hq
      obtain ⟨q', hq', hbq'⟩ := hF1 b hbq
      exact hb.2.2 q' hq' hbq'⟩
    obtain ⟨u, hu, hv⟩ := hR m' hfr hr (okB ⟨w, X, F.flatten, [x0], 0⟩ w' [F1]) [x0]
    have m2 : Mem ⟨w, X, F.flatten, [x0], 0⟩ [o'.ob] [x0] [F1] w' :=
      ⟨m'.os, m'.tape, m'.output, m'.size, m'.kept, rfl, rfl, fun i o1 y q e1 e2 e3 => by
        cases i with
        | succ i => simp at e1
        | zero =>
          simp at e1 e2 e3
          subst e1 e2 e3
          exact hO _ _ hsub, fun i y h => by
        cases i with
        | succ i => simp at h
        | zero => simp at h; subst h; exact m'.one 0 _ hx0, fun i j q q' b e1 e2 _ _ => by
        have h1 := (List.getElem?_eq_some_iff.1 e1).1
        have h2 := (List.getElem?_eq_some_iff.1 e2).1
        simp at h1 h2
        omega, fun q hq b hb => by
        simp at hq
        subst hq
        exact hown b hb, fun _ _ h => h⟩
    have ex : Ext ⟨w, X, F.flatten, [x0], 0⟩ [x0] F w [x0] [F1] w' := by
      refine ⟨fun _ _ h => h, fun b hb => ?_⟩
      have hbX : b < w.heap.size := hb.2.1
      have hnF : b ∉ F.flatten := fun hm => by
        obtain ⟨q, hq, hbq⟩ := List.mem_flatten.1 hm
        exact hb.2.2 q hq hbq
      refine ⟨⟨hb.1, Nat.lt_of_lt_of_le hbX m'.size, fun q hq hbq => ?_⟩, m'.kept b hbX hnF⟩
      simp at hq
      subst hq
      rcases (hown b hbq).2 with h | h
      · exact hnF h
      · omega
    have fin : ∃ v, (results fn a'.tmps).run P w' = .ok v w' ∧ ∃ u, (Ending.returned v) = .returned u ∧ Out ⟨w, X, F.flatten, [x0], 0⟩ [o'.ob] r.av [x0] F w u w' := ⟨u, hu, u, rfl, [x0], [F1], m2, ex, hv⟩
    exact ⟨he, fin⟩
theorem LiftsO.of_body {f : FuncId} {fn : Func} {c : Code} {as : List DV} {o : OD} {r : DV} {o' : OD} (N : Nat) (l : List ResultVar) (hf : P.funcs[f]? = some fn) (hb : fn.body = some c) (hN : fn.ntmps = N) (hname : (fn.name == "runtime.NumGoroutine") = false)
    (hn : Nat.ble (lenL as) N = true) (hl : fn.results.toList = l)
    (h : ∀ (w0 : World) (X0 : Nat → Prop) (F0 : List Nat) (x0 : Value), AWPD P ⟨w0, X0, F0, [x0], N⟩ c (fun e fr H => (e = .ret ∨ e = .normal) ∧ RetF fr l r ∧ FoldO H o'.ob) (argD 0 as) [o]) : LiftsO P f as o r o' :=
  LiftsO.of_bodyG N (fun fr _ => RetF fr l r) hf hb hN hname hn (fun _ hfr hr ok' V' => RetF_rep hl hfr (ok' := ok') (V' := V') hr) h
/-- The same, of a result without memory that is kept in a struct of the call's own. -/
def RetFC (P : Program) (fr : DF) (H : List OD) (t : Nat) (T : TypeId) (r : DV) : Prop :=
  ∃ n tB l, lookD fr t = some (.op n 0) ∧ getOD H n = some (.box tB l) ∧ AggT P T (lenL l) ∧ flatD (.agg l) = true ∧ .agg l = r
theorem RetFC_rep {C : Ctx} {fr : DF} {H : List OD} {fn : Func} {t : Nat} {T : TypeId} {r : DV} (hl : fn.results.toList = [.cell t T]) {V : List Value} {F : List (List Nat)} {w : World} {a : Act} (m : Mem C (H.map OD.ob) V F w) (hf : Frm C (frA fr) V F a w) (h : RetFC P fr H t T r) (ok' : Nat → Prop) (V' : List Value) :
    ∃ u, (results fn a.tmps).run P w = .ok u w ∧ VRep ok' w V' r.av u := by
  obtain ⟨n, tB, l, h1, h2, hT, h3, rfl⟩ := h
  have hl' : fn.results = #[.cell t T] := by rw [← hl]
  obtain ⟨x, hx, hr⟩ := hf t (.op n 0) (by rw [frA_look, h1]; rfl)
  have e0 : a.tmps.getD t undef = x := by simp [hx]
  have hH := getOD_map h2
  obtain ⟨y, f, hy, hff, hro⟩ := m.get hH
  unfold VRep at hr
  obtain ⟨ad, hb, hu⟩ := hr
  rw [hy] at hb
  obtain ⟨us, hus, hcell⟩ := ob_cells (cs := DV.avs l) rfl hro hb
  have hlen : us.length = lenL l := by rw [hus.length, DV.avs_map, List.length_map, lenL_eq]
  have hv : VRep (okB C w F) w V (DV.agg l).av (.agg us.toArray) := by unfold DV.av VRep; exact ⟨_, rfl, by simpa using hus⟩
  refine ⟨.agg us.toArray, results_cell hl' e0 (ad := ad.add 0) (by rw [hu]; rfl) ?_, hv.flat _ _ (flatD_flat _ h3)⟩
  rw [run_loadVar_agg (by rw [hlen]; exact hT) fun j u hj => ?_]
  rw [add_add]
  have := hcell j u hj
  simpa using this
theorem LiftsO.of_bodyC {f : FuncId} {fn : Func} {c : Code} {as : List DV} {o : OD} {r : DV} {o' : OD} (N t : Nat) (T : TypeId) (hf : P.funcs[f]? = some fn) (hb : fn.body = some c) (hN : fn.ntmps = N) (hname : (fn.name == "runtime.NumGoroutine") = false)
    (hn : Nat.ble (lenL as) N = true) (hl : fn.results.toList = [.cell t T])
    (h : ∀ (w0 : World) (X0 : Nat → Prop) (F0 : List Nat) (x0 : Value), AWPD P ⟨w0, X0, F0, [x0], N⟩ c (fun e fr H => (e = .ret ∨ e = .normal) ∧ RetFC P fr H t T r ∧ FoldO H o'.ob) (argD 0 as) [o]) : LiftsO P f as o r o' :=
  LiftsO.of_bodyG N (fun fr H => RetFC P fr H t T r) hf hb hN hname hn (fun m hfr hr ok' V' => RetFC_rep hl m hfr hr ok' V') h

theorem RetF.one {t : Nat} {r : DV} (h : fitF (lookD fr t) r) : RetF fr [.tmp t] r := h

/-- What a function gives back beside a row that it turned: what holds no memory, or a row of its own. -/
def fitX (H : List OD) : Option DV → DV → Prop
  | some (.ob j), r => j ≠ 0 ∧ ∃ e τ xs, getOD H j = some (.row e τ xs) ∧ r = .sl τ xs
  | some d, r => flatD d = true ∧ fitD d r ∧ flatD r = true
  | none, _ => False
def RetX (fr : DF) (H : List OD) : List ResultVar → DV → Prop
  | [.tmp t], r => fitX H (lookD fr t) r
  | [.tmp t, .tmp u], .tup [r1, r2] => fitX H (lookD fr t) r1 ∧ fitX H (lookD fr u) r2
  | _, _ => False
theorem fitX_rep {V : List Value} {F : List (List Nat)} {w : World} {a : Act} (m : Mem C (H.map OD.ob) V F w) (hf : Frm C (frA fr) V F a w) {ok' : Nat → Prop} {V' : List Value} (hok : ∀ b, okB C w F b → ok' b) (hF : ∀ j, j ≠ 0 → ∀ f, F[j]? = some f → ∀ b ∈ f, ok' b) {t : Nat} {r : DV} (h : fitX H (lookD fr t) r) : VRep ok' w V' r.av (a.tmps.getD t undef) := by
  unfold fitX at h
  split at h
  · rename_i j hl
    obtain ⟨hj, e, τ, xs, hg, rfl⟩ := h
    obtain ⟨x, hx, hr⟩ := hf t (.ob j) (by rw [frA_look, hl]; rfl)
    have : a.tmps.getD t undef = x := by simp [hx]
    rw [this]
    unfold VRep at hr
    obtain ⟨y, f, hy, hfp, ho⟩ := m.get (getOD_map hg)
    rw [hr] at hy
    cases hy
    exact own_read ho (frees_flatMap (gT_free τ) xs) hok (hF j hj f hfp)
  · rename_i d hno hl
    obtain ⟨x, hx, hr⟩ := hf t d.av (by rw [frA_look, hl]; rfl)
    have : a.tmps.getD t undef = x := by simp [hx]
    rw [this]
    exact (fitD_rep h.2.1 hr).flat _ _ (flatD_flat _ h.2.2)
  · cases h
theorem RetX_rep {fn : Func} {l : List ResultVar} {r : DV} (hl : fn.results.toList = l) {V : List Value} {F : List (List Nat)} {w : World} {a : Act} (m : Mem C (H.map OD.ob) V F w) (hf : Frm C (frA fr) V F a w) {ok' : Nat → Prop} {V' : List Value} (hok : ∀ b, okB C w F b → ok' b) (hF : ∀ j, j ≠ 0 → ∀ f, F[j]? = some f → ∀ b ∈ f, ok' b) (h : RetX fr H l r) :
    ∃ u, (results fn a.tmps).run P w = .ok u w ∧ VRep ok' w V' r.av u := by
  have hl' : fn.results = l.toArray := by rw [← hl]
  unfold RetX at h
  split at h
  · exact ⟨_, results_tmp hl' _ _ _, fitX_rep m hf hok hF h⟩
  · refine ⟨_, results_tmp2 hl' _ _ _, ?_⟩
    simp only [DV.av, DV.avs]
    unfold VRep VReps VReps VReps
    exact ⟨_, rfl, _, _, rfl, fitX_rep m hf hok hF h.1, _, _, rfl, fitX_rep m hf hok hF h.2, rfl⟩
  · cases h
theorem row_own {ok : Nat → Prop} {w : World} {V : List Value} {x : Value} {f : List Nat} {e : TypeId} {size : Nat} {cs : List AV} (h : ORep ok w V x f (.row e size cs)) : f = x.ownBlock.toList := by
  unfold ORep at h
  obtain ⟨_, _, _, _, _, _, hf⟩ := h
  exact hf
/-- The contract of a function that turns a row that came in, and may give back a row of its own. -/
theorem LiftsO.of_bodyX {f : FuncId} {fn : Func} {c : Code} {as : List DV} {r : DV} {e1 e2 : TypeId} {τ1 τ2 : Ty} {xs : List τ1.T} {ys : List τ2.T} (N : Nat) (l : List ResultVar) (hf : P.funcs[f]? = some fn) (hb : fn.body = some c) (hN : fn.ntmps = N) (hname : (fn.name == "runtime.NumGoroutine") = false)
    (hn : Nat.ble (lenL as) N = true) (hl : fn.results.toList = l)
    (h : ∀ (w0 : World) (X0 : Nat → Prop) (F0 : List Nat) (x0 : Value), AWPD P ⟨w0, X0, F0, [x0], N⟩ c (fun e fr H => (e = .ret ∨ e = .normal) ∧ RetX fr H l r ∧ getOD H 0 = some (.row e2 τ2 ys)) (argD 0 as) [.row e1 τ1 xs]) : LiftsO P f as (.row e1 τ1 xs) r (.row e2 τ2 ys) := by
  subst hN
  refine ⟨⟨fn, hf, hname, by rw [hb]; rfl⟩, fun w X V F vs m hvs => ?_⟩
  obtain ⟨x0, hV⟩ : ∃ x0, V = [x0] := by
    have hl : V.length = 1 := m.lenV
    match V, hl with
    | [z], _ => exact ⟨z, rfl⟩
  obtain ⟨f0, hF0⟩ : ∃ f0, F = [f0] := by
    have hl : F.length = 1 := m.lenF
    match F, hl with
    | [z], _ => exact ⟨z, rfl⟩
  subst hV hF0
  have hf0 : f0 = x0.ownBlock.toList := row_own (m.obs 0 _ x0 f0 rfl rfl rfl)
  have hlen : vs.size = as.length := by have := hvs.length; rw [avs_len] at this; simpa using this
  have hn' : as.length ≤ fn.ntmps := by rw [← lenL_eq]; exact Nat.le_of_ble_eq_true hn
  have m0 : Mem ⟨w, X, [f0].flatten, [x0], fn.ntmps⟩ [OD.ob (.row e1 τ1 xs)] [x0] [f0] w := Mem.ctx (C := ⟨w, X, [f0].flatten, [x0], 0⟩) rfl rfl rfl rfl m
  refine calls_of_AWP hf hb (h w X [f0].flatten x0) ⟨[x0], [f0], m0, DefOK.nil _ _ _, by simp [hlen]; omega, fun t av ht => ?_⟩ fun e a' w' ⟨s', ⟨fr', H', ⟨he, hr, hg0⟩, hs⟩, V', F', m', hdef, hsz, hfr⟩ => ?_
  · simp only [argD_frA] at ht
    obtain ⟨_, h2⟩ := argsF_look _ 0 t av ht
    obtain ⟨x, hx, hv⟩ := hvs.get _ _ h2
    refine ⟨x, ?_, hv⟩
    have hlt : t < vs.size := by
      have := (List.getElem?_eq_some_iff.1 hx).1
      simpa using this
    rw [Array.getElem?_append_left hlt]
    simpa using hx
  · subst hs
    have hx0 : V'[0]? = some x0 := m'.car 0 x0 rfl
    obtain ⟨y, f1, hy, hf1, ho⟩ := m'.get (getOD_map hg0)
    rw [hx0] at hy
    cases hy
    have hfe : f1 = f0 := by rw [row_own ho, hf0]
    subst hfe
    have hsub : ∀ b, okB ⟨w, X, [f1].flatten, [x0], fn.ntmps⟩ w' F' b → okB ⟨w, X, [f1].flatten, [x0], 0⟩ w' [f1] b := fun b hb => ⟨hb.1, hb.2.1, fun q hq hbq => by
      simp at hq
      subst hq
      exact hb.2.2 _ (mem_of_get hf1) hbq⟩
    have hnew : ∀ j, j ≠ 0 → ∀ q, F'[j]? = some q → ∀ b ∈ q, okB ⟨w, X, [f1].flatten, [x0], 0⟩ w' [f1] b := fun j hj q hq b hb => by
      have hown := m'.own q (mem_of_get hq) b hb
      have hnf : b ∉ f1 := fun hbf => hj (m'.apart j 0 q f1 b hq hf1 hb hbf)
      refine ⟨.inr (hown.2.resolve_left (by simpa using hnf)), hown.1, fun q' hq' hbq => ?_⟩
      simp at hq'
      subst hq'
      exact hnf hbq
    obtain ⟨u, hu, hv⟩ := RetX_rep (P := P) hl m' hfr (V' := [x0]) hsub hnew hr
    have m2 : Mem ⟨w, X, [f1].flatten, [x0], 0⟩ [OD.ob (.row e2 τ2 ys)] [x0] [f1] w' :=
      ⟨m'.os, m'.tape, m'.output, m'.size, m'.kept, rfl, rfl, fun i o1 y q e1 e2 e3 => by
        cases i with
        | succ i => simp at e1
        | zero =>
          simp at e1 e2 e3
          subst e1 e2 e3
          exact (ho.anyV _ (by simp only [OD.ob, Ob.free]; exact frees_flatMap (gT_free _) _) (V' := [x0])).ext (fun _ _ h => h) (fun b hb => ⟨hsub b hb, rfl⟩) (fun _ _ => rfl) _, fun i y h => by
        cases i with
        | succ i => simp at h
        | zero => simp at h; subst h; exact m'.one 0 _ hx0, fun i j q q' b e1 e2 _ _ => by
        have h1 := (List.getElem?_eq_some_iff.1 e1).1
        have h2 := (List.getElem?_eq_some_iff.1 e2).1
        simp at h1 h2
        omega, fun q hq b hb => by
        simp at hq
        subst hq
        exact m'.own _ (mem_of_get hf1) b hb, fun _ _ h => h⟩
    have ex : Ext ⟨w, X, [f1].flatten, [x0], 0⟩ [x0] [f1] w [x0] [f1] w' := by
      refine ⟨fun _ _ h => h, fun b hb => ?_⟩
      have hnF : b ∉ [f1].flatten := fun hm => hb.2.2 f1 (by simp) (by simpa using hm)
      exact ⟨⟨hb.1, Nat.lt_of_lt_of_le hb.2.1 m'.size, hb.2.2⟩, m'.kept b hb.2.1 hnF⟩
    have fin : ∃ v, (results fn a'.tmps).run P w' = .ok v w' ∧ ∃ u, (Ending.returned v) = .returned u ∧ Out ⟨w, X, [f1].flatten, [x0], 0⟩ [OD.ob (.row e2 τ2 ys)] r.av [x0] [f1] w u w' := ⟨u, hu, u, rfl, [x0], [f1], m2, ex, hv⟩
    exact ⟨he, fin⟩

/-- What a function hands out anew. -/
def RetN (fr : DF) (H : List OD) (l : List ResultVar) (o : OD) : Prop := ∃ t i, l = [.tmp t] ∧ lookD fr t = some (.ob i) ∧ getOD H i = some o ∧ o.ob.free = true
theorem LiftsN.of_body {f : FuncId} {fn : Func} {c : Code} {as : List DV} {o : OD} (N : Nat) (l : List ResultVar) (hf : P.funcs[f]? = some fn) (hb : fn.body = some c) (hN : fn.ntmps = N) (hname : (fn.name == "runtime.NumGoroutine") = false)
    (hn : Nat.ble (lenL as) N = true) (hl : fn.results.toList = l)
    (h : ∀ (w0 : World) (X0 : Nat → Prop), AWPD P ⟨w0, X0, [], [], N⟩ c (fun e fr H => (e = .ret ∨ e = .normal) ∧ RetN fr H l o) (argD 0 as) []) : LiftsN P f as o := by
  subst hN
  refine ⟨⟨fn, hf, hname, by rw [hb]; rfl⟩, fun w X V F vs m hvs => ?_⟩
  have h1 : V = [] := List.eq_nil_of_length_eq_zero m.lenV
  have h2 : F = [] := List.eq_nil_of_length_eq_zero m.lenF
  subst h1 h2
  have hlen : vs.size = as.length := by have := hvs.length; rw [avs_len] at this; simpa using this
  have hn' : as.length ≤ fn.ntmps := by rw [← lenL_eq]; exact Nat.le_of_ble_eq_true hn
  have m0 : Mem ⟨w, X, [], [], fn.ntmps⟩ [] [] [] w := Mem.start w X fn.ntmps
  refine calls_of_AWP hf hb (h w X) ⟨[], [], m0, DefOK.nil _ _ _, by simp [hlen]; omega, fun t av ht => ?_⟩ fun e a' w' ⟨s', ⟨fr', H', ⟨he, hr⟩, hs⟩, V', F', m', hdef, hsz, hfr⟩ => ?_
  · simp only [argD_frA] at ht
    obtain ⟨_, h2⟩ := argsF_look _ 0 t av ht
    obtain ⟨x, hx, hv⟩ := hvs.get _ _ h2
    refine ⟨x, ?_, hv⟩
    have hlt : t < vs.size := by
      have := (List.getElem?_eq_some_iff.1 hx).1
      simpa using this
    rw [Array.getElem?_append_left hlt]
    simpa using hx
  · subst hs
    obtain ⟨t, i, hlt, hlk, hgi, hfree⟩ := hr
    subst hlt
    · skip
      obtain ⟨y, hy, hvy⟩ := hfr t (.ob i) (by rw [frA_look, hlk]; rfl)
      unfold VRep at hvy
      obtain ⟨y', fp, hy', hfp, ho⟩ := m'.get (getOD_map hgi)
      rw [hvy] at hy'
      cases hy'
      have hown := m'.own fp (mem_of_get hfp)
      have m2 : Mem ⟨w, X, [], [], 0⟩ [o.ob] [y] [fp] w' :=
        ⟨m'.os, m'.tape, m'.output, m'.size, m'.kept, rfl, rfl, fun i o1 z q e1 e2 e3 => by
          cases i with
          | succ i => simp at e1
          | zero =>
            simp at e1 e2 e3
            subst e1 e2 e3
            exact (ho.anyV _ hfree (V' := [y])).ext (fun _ _ h => h) (fun b hb => ⟨⟨hb.1, hb.2.1, fun q hq hbq => by simp at hq; subst hq; exact hb.2.2 _ (mem_of_get hfp) hbq⟩, rfl⟩) (fun _ _ => rfl) _, fun i z h => by
          cases i with
          | succ i => simp at h
          | zero => simp at h; subst h; exact m'.one _ _ hvy, fun i j q q' b e1 e2 _ _ => by
          have h1 := (List.getElem?_eq_some_iff.1 e1).1
          have h2 := (List.getElem?_eq_some_iff.1 e2).1
          simp at h1 h2
          omega, fun q hq b hb => by
          simp at hq
          subst hq
          exact hown b hb, fun i x h => by simp at h⟩
      have ex : Ext ⟨w, X, [], [], 0⟩ [] [] w [y] [fp] w' := by
        refine ⟨fun _ _ h => by simp at h, fun b hb => ⟨⟨hb.1, Nat.lt_of_lt_of_le hb.2.1 m'.size, fun q hq hbq => ?_⟩, m'.kept b hb.2.1 (by simp)⟩⟩
        simp at hq
        subst hq
        have hlt : b < w.heap.size := hb.2.1
        rcases (hown b hbq).2 with h | h
        · simp at h
        · have h : w.heap.size ≤ b := h
          omega
      have hl' : fn.results = #[.tmp t] := by
        rw [← Array.toArray_toList (xs := fn.results), hl]
      have hu : (results fn a'.tmps).run P w' = .ok (a'.tmps.getD t undef) w' := results_tmp hl' _ _ _
      have hty : a'.tmps.getD t undef = y := by simp [hy]
      rw [hty] at hu
      have fin : ∃ v, (results fn a'.tmps).run P w' = .ok v w' ∧ ∃ u, (Ending.returned v) = .returned u ∧ Out ⟨w, X, [], [], 0⟩ [o.ob] (.ob 0) [] [] w u w' := ⟨y, hu, y, rfl, [y], [fp], m2, ex, by unfold VRep; rfl⟩
      exact ⟨he, fin⟩

/-! ### Calls -/

def renD (i : Nat) : DV → Option DV
  | .ob j => if j = i then some (.ob 0) else none
  | .op j c => if j = i then some (.op 0 c) else none
  | a => bif freeD a then some a else none
def renDs (i : Nat) : List DV → Option (List DV)
  | [] => some []
  | a :: l => match renD i a with
    | some b => match renDs i l with
      | some r => some (b :: r)
      | none => none
    | none => none
theorem renD_renA {i : Nat} {d b : DV} (h : renD i d = some b) : renA i d.av = some b.av := by
  unfold renD at h
  split at h
  · rename_i j
    split at h
    · rename_i hj; cases h; simp [DV.av, renA, hj]
    · cases h
  · rename_i j c
    split at h
    · rename_i hj; cases h; simp [DV.av, renA, hj]
    · cases h
  · rename_i n1 n2
    obtain ⟨h1, h2⟩ := bif_some h
    cases h2
    have hfree := freeD_av _ h1
    unfold renA
    split
    · rename_i hj; rw [hj] at hfree; simp [AV.free] at hfree
    · rename_i hj; rw [hj] at hfree; simp [AV.free] at hfree
    · simp [hfree]
theorem renDs_renL {i : Nat} : ∀ {l r : List DV}, renDs i l = some r → renL i (DV.avs l) = some (DV.avs r)
  | [], r, h => by cases h; rfl
  | d :: l, r, h => by
    simp only [renDs] at h
    cases h1 : renD i d with
    | none => rw [h1] at h; cases h
    | some b =>
      rw [h1] at h
      cases h2 : renDs i l with
      | none => rw [h2] at h; cases h
      | some q =>
        rw [h2] at h
        cases h
        simp only [DV.avs, renL, renD_renA h1, renDs_renL h2]
/-- A call that is handed an object to turn. -/
theorem StepD.callO {f : FuncId} {args : Array Operand} {ats : Array TypeId} {ds as : List DV} {r : DV} {o o' : OD} {i : Nat} {d : Option Nat} {t : TypeId} {p : String} {af : Array Edge} {g : Option (Nat × Bool)} (hfn : LiftsO P f as o r o') (hargs : evsD (evS tb.E fr) args.toList = some ds) (hren : renDs i ds = some as) (hH : getOD H i = some o)
    (hr : freeD r = true) (ho : o.ob.free = true) (ho' : o'.ob.free = true) : StepD P C tb fr ⟨d, .call { callee := .value (.func f), args := args, argTypes := ats }, t, p, af, g⟩ H r (setOD H i o') := fun _ hρ => by
  rw [setOD_map]
  exact VStep.callE (hρ.1 (.func f) _ rfl) (evsD_evs hρ hargs) (renDs_renL hren) (getOD_map hH) hfn (freeD_av _ hr) ho ho'

theorem VStep.callN {f : FuncId} {args : Array Operand} {ats : Array TypeId} {avs : List AV} {o' : Ob} {ρ : Operand → Option AV} {H : List Ob} {d : Option Nat} {t : TypeId} {p : String} {af : Array Edge} {g : Option (Nat × Bool)} (hf0 : ρ (.func f) = some (.v (.func (.func f) #[] #[]))) (hargs : evs ρ args.toList = some avs) (hfn : Lifts P f avs [] (.ob 0) [o']) (hfree : AV.frees avs = true) (hof' : o'.free = true) :
    VStep P C ⟨d, .call { callee := .value (.func f), args := args, argTypes := ats }, t, p, af, g⟩ ρ H (.ob H.length) (H ++ [o']) := fun σ w V F m hρ => by
  have hσ : σ (.func f) = .func (.func f) #[] #[] := VRep.v_iff.1 (hρ (.func f) (by simp [Op.operands, Call.operands]) _ hf0)
  obtain ⟨⟨fn, hf, hname, hb⟩, hfn⟩ := hfn
  have hv : VReps (okB C w F) w V avs (args.toList.map σ) := evs_get hargs fun x hx b hb => hρ x (by simp [Op.operands, Call.operands]; exact .inr (by simpa using hx)) b hb
  have hokb : ∀ b, okB C w F b → okB ⟨w, okB C w F, [], [], 0⟩ w [] b := fun b hb => ⟨.inl hb, hb.2.1, by simp⟩
  have hv' : VReps (okB ⟨w, okB C w F, [], [], 0⟩ w []) w [] avs (args.map σ).toList := by
    rw [Array.toList_map]
    exact (hv.anyV _ _ hfree (V' := [])).ext (fun _ _ h => h) (fun b hb => ⟨hokb b hb, rfl⟩)
  refine .inr ⟨f, args.map σ, ?_, (hfn w (okB C w F) [] [] (args.map σ) (Mem.start w _ 0) hv').mono ?_⟩
  · simp only [execOp, resolve, hσ, Deferred.ofValue, invoke, Sem.run_bind, Sem.run_pure, Result.andThen_ok]
    simpa using run_call hf hname hb (args.map σ) w
  · rintro e w' ⟨u, rfl, V', F', m', e', hu⟩
    obtain ⟨y, rfl⟩ : ∃ y, V' = [y] := by
      have h1 : V'.length = 1 := m'.lenV
      match V', h1 with
      | [z], _ => exact ⟨z, rfl⟩
    obtain ⟨fp, rfl⟩ : ∃ fp, F' = [fp] := by
      have h1 : F'.length = 1 := m'.lenF
      match F', h1 with
      | [z], _ => exact ⟨z, rfl⟩
    have ho := m'.obs 0 o' y fp (by simp) (by simp) (by simp)
    have hown : ∀ b ∈ fp, b < w'.heap.size ∧ w.heap.size ≤ b := fun b hb => by
      have := m'.own fp (by simp) b hb
      exact ⟨this.1, this.2.resolve_left (by simp)⟩
    obtain ⟨m2, e2⟩ := m.push (w' := w') o' fp y (m'.one 0 y (by simp)) m'.os m'.tape m'.output m'.size (fun b hbl => m'.kept b hbl (by simp)) hown
      (fun _ => (ho.anyV o' hof' (V' := V ++ [y])).ext (fun _ _ h => h) (fun b hb => ⟨⟨by
        rcases hb.1 with h | h
        · exact h.1
        · have h : w.heap.size ≤ b := h
          exact .inr (Nat.le_trans m.size h), hb.2.1, fun q hq hbq => by
        rcases List.mem_append.1 hq with hq | hq
        · rcases hb.1 with h | h
          · exact h.2.2 q hq hbq
          · have h : w.heap.size ≤ b := h
            have := (m.own q hq b hbq).1
            omega
        · simp at hq
          subst hq
          exact hb.2.2 _ (by simp) hbq⟩, rfl⟩) (fun _ _ => rfl) o')
    refine ⟨u, rfl, V ++ [y], F ++ [fp], m2, e2, ?_⟩
    unfold VRep at hu ⊢
    simp at hu
    subst hu
    simp [← m.lenV]
/-- A call that hands out an object. -/
theorem StepD.callN {f : FuncId} {args : Array Operand} {ats : Array TypeId} {as : List DV} {o' : OD} {d : Option Nat} {t : TypeId} {p : String} {af : Array Edge} {g : Option (Nat × Bool)} (hfn : LiftsN P f as o') (hargs : evsD (evS tb.E fr) args.toList = some as) (hfree : freeDs as = true) (ho' : o'.ob.free = true) :
    StepD P C tb fr ⟨d, .call { callee := .value (.func f), args := args, argTypes := ats }, t, p, af, g⟩ H (.ob (lenOD H)) (H ++ [o']) := fun _ hρ => by
  have := VStep.callN (C := C) (H := H.map OD.ob) (d := d) (t := t) (p := p) (af := af) (g := g) (ats := ats) (hρ.1 (.func f) _ rfl) (evsD_evs hρ hargs) hfn (freeDs_av _ hfree) ho'
  rw [← lenOD_map] at this
  rw [List.map_append]
  exact this

/-! ### Maps: the steps -/

theorem StepD.makeMap {T : TypeId} (τ : Ty) {d : Option Nat} {t : TypeId} {p : String} {af : Array Edge} {g : Option (Nat × Bool)} : StepD P C tb fr ⟨d, .makeMap T none, t, p, af, g⟩ H (.ob (lenOD H)) (H ++ [.cust (mapR τ [])]) := fun ρA _ => by
  have := VStep.makeMap (P := P) (C := C) (ρ := ρA) (H := H.map OD.ob) (d := d) (t := t) (p := p) (af := af) (g := g) (T := T) τ
  rw [List.map_append]
  rw [← lenOD_map] at this
  exact this
theorem StepD.mapNilN {xT yT K E : TypeId} {x y : Operand} {d : Option Nat} {t : TypeId} {p : String} {af : Array Edge} {g : Option (Nat × Bool)} (hT : P.underlying xT = some (.map K E)) (hx : evS tb.E fr x = some (.u (.map none))) (hy : evS tb.E fr y = some (.u (.map none))) :
    StepD P C tb fr ⟨d, .binOp .eql xT x y yT, t, p, af, g⟩ H (.b true) H := fun _ hρ => VStep.mapNilN (hρ.1 _ _ hx) (hρ.1 _ _ hy) hT
theorem StepD.mapNilO {xT yT K E : TypeId} {x y : Operand} {τ : Ty} {ys : List τ.T} {i : Nat} {d : Option Nat} {t : TypeId} {p : String} {af : Array Edge} {g : Option (Nat × Bool)} (hT : P.underlying xT = some (.map K E)) (hx : evS tb.E fr x = some (.ob i)) (hH : getOD H i = some (.cust (mapR τ ys))) (hy : evS tb.E fr y = some (.u (.map none))) :
    StepD P C tb fr ⟨d, .binOp .eql xT x y yT, t, p, af, g⟩ H (.b false) H := fun _ hρ => VStep.mapNilO (hρ.1 _ _ hx) (getOD_map hH) (hρ.1 _ _ hy) hT
/-- A key, as it is told. -/
def kD : (τ : Ty) → τ.T → DV
  | .int, n => .i n
  | .two, q => .agg [.i q.1, .i q.2]
  | .tup n, l => .agg ((List.range n).map fun i => .i ((l : List Int).getD i 0))
  | _, _ => .any
theorem kD_av (τ : Ty) (q : τ.T) (h : keyed τ = true) : (kD τ q).av = kAV τ q := by
  cases τ with
  | int => rfl
  | two => rfl
  | tup n =>
    simp only [kD, kAV, DV.av]
    rw [DV.avs_map, List.map_map, List.map_map]
    rfl
  | bool => cases h
  | sl _ => cases h
  | val => cases h
theorem StepD.lookup {T K : TypeId} {x k : Operand} {τ : Ty} {ys : List τ.T} {q : τ.T} {i : Nat} {d : Option Nat} {t : TypeId} {p : String} {af : Array Edge} {g : Option (Nat × Bool)} (hT : MapT P T K) (hK : KeyT P K τ) (hx : evS tb.E fr x = some (.ob i)) (hH : getOD H i = some (.cust (mapR τ ys))) (hk : evS tb.E fr k = some (kD τ q)) :
    StepD P C tb fr ⟨d, .lookup T x k true, t, p, af, g⟩ H (.tup [.i (((idxK τ q ys 0).getD 0 : Nat) : Int), .b (idxK τ q ys 0).isSome]) H := fun _ hρ =>
  VStep.lookup (hρ.1 _ _ hx) (getOD_map hH) (by rw [hρ.1 _ _ hk, kD_av τ q hK.keyed]) hT hK
theorem StepD.mapUpdate {T K : TypeId} {x k v : Operand} {τ : Ty} {ys : List τ.T} {q : τ.T} {i : Nat} {n : Int} {d : Option Nat} {t : TypeId} {p : String} {af : Array Edge} {g : Option (Nat × Bool)} (hT : MapT P T K) (hK : KeyT P K τ) (hn : idxK τ q ys 0 = none) (hx : evS tb.E fr x = some (.ob i)) (hH : getOD H i = some (.cust (mapR τ ys))) (hk : evS tb.E fr k = some (kD τ q)) (hv : evS tb.E fr v = some (.i n)) (hl : n = (ys.length : Int)) :
    StepD P C tb fr ⟨d, .mapUpdate T x k v, t, p, af, g⟩ H (.u undef) (setOD H i (.cust (mapR τ (ys ++ [q])))) := fun _ hρ => by
  rw [setOD_map]
  subst hl
  exact VStep.mapUpdate (hρ.1 _ _ hx) (getOD_map hH) (by rw [hρ.1 _ _ hk, kD_av τ q hK.keyed]) (hρ.1 _ _ hv) hT hK hn
end
end Go.Qw
