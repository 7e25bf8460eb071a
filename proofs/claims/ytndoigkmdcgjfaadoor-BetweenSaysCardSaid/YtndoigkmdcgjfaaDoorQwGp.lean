/-
  GROUPS of things as one object, told by who stands for whom: what is found is the same, however the ways to it are made shorter.
-/
import Derived.Test.YtndoigkmdcgjfaaDoorQwGr
import Derived.Test.YtndoigkmdcgjfaaDoorQwQ
namespace Go.Proofs.YtndoigkmdcgjfaaDoor
open Go Go.Qw
set_option maxRecDepth 10000
set_option linter.unusedSimpArgs false
set_option linter.unusedVariables false
set_option linter.unusedSectionVars false

section
variable {P : Program} {C : Ctx}
/-- Some row of ints that is as told. -/
def exR (Φ : List Int → Prop) (T : TypeId) (w : World) (x : Value) (f : List Nat) : Prop := ∃ g : List Int, Φ g ∧ ORep (fun _ => False) w [] x f (OD.row T .int g).ob
theorem ints_reps {ok ok' : Nat → Prop} {w w' : World} {V V' : List Value} : ∀ {g : List Int} {us : List Value}, VReps ok w V (g.map iv) us → VReps ok' w' V' (g.map iv) us
  | [], us, h => by unfold VReps at h ⊢; exact h
  | a :: g, us, h => by
    rw [List.map_cons] at h ⊢
    unfold VReps at h ⊢
    obtain ⟨u, q, rfl, h1, h2⟩ := h
    unfold iv VRep at h1
    exact ⟨u, q, rfl, by unfold iv VRep; exact h1, ints_reps h2⟩
theorem row_any {ok ok' : Nat → Prop} {w : World} {V V' : List Value} {x : Value} {f : List Nat} {T : TypeId} {g : List Int} (h : ORep ok w V x f (OD.row T .int g).ob) : ORep ok' w V' x f (OD.row T .int g).ob := by
  simp only [OD.ob] at h ⊢
  unfold ORep at h ⊢
  obtain ⟨h0, n, us, ho, hl, hr, he⟩ := h
  rw [ints_cells] at hl hr ⊢
  exact ⟨h0, n, us, ho, hl, ints_reps hr, he⟩
theorem exR_stays {Φ : List Int → Prop} {T : TypeId} {x : Value} {f : List Nat} (w₁ w₂ : World) (hb : ∀ b ∈ f, w₂.heap[b]? = w₁.heap[b]?) (h : exR Φ T w₁ x f) : exR Φ T w₂ x f := by
  obtain ⟨g, h1, h2⟩ := h
  exact ⟨g, h1, h2.ext (fun _ _ h => h) (fun _ h => h.elim) hb _⟩
theorem ex_of_row {Φ : List Int → Prop} {T : TypeId} {ok : Nat → Prop} {w : World} {V : List Value} {x : Value} {f : List Nat} {g : List Int} (hΦ : Φ g) (h : ORep ok w V x f (OD.row T .int g).ob) : ORep ok w V x f (OD.cust (exR Φ T)).ob := by
  show ORep ok w V x f (.cust _)
  unfold ORep
  exact ⟨fun _ _ hb h => exR_stays _ _ hb h, g, hΦ, row_any h⟩
theorem ex_row {Φ : List Int → Prop} {T : TypeId} {ok : Nat → Prop} {w : World} {V : List Value} {x : Value} {f : List Nat} (h : ORep ok w V x f (OD.cust (exR Φ T)).ob) : ∃ g, Φ g ∧ ORep ok w V x f (OD.row T .int g).ob := by
  have h : ORep ok w V x f (.cust (exR Φ T)) := h
  unfold ORep at h
  obtain ⟨_, g, hΦ, hr⟩ := h
  exact ⟨g, hΦ, row_any hr⟩
theorem mem_asOb {H H' : List Ob} {V : List Value} {F : List (List Nat)} {w : World} (m : Mem C H V F w) (hl : H'.length = H.length) (h : ∀ (i : Nat) (o o' : Ob) (x : Value) (f : List Nat), H[i]? = some o → H'[i]? = some o' → V[i]? = some x → F[i]? = some f → ORep (okB C w F) w V x f o → ORep (okB C w F) w V x f o') : Mem C H' V F w :=
  ⟨m.os, m.tape, m.output, m.size, m.kept, by rw [m.lenV, hl], by rw [m.lenF, hl], fun i o' x f h1 h2 h3 => by
    have hi : i < H.length := by rw [← hl]; exact (List.getElem?_eq_some_iff.1 h1).1
    exact h i H[i] o' x f (List.getElem?_eq_getElem hi) h1 h2 h3 (m.obs i H[i] x f (List.getElem?_eq_getElem hi) h2 h3), m.one, m.apart, m.own, m.car⟩
theorem LiftsO.ex {f : FuncId} {args : List DV} {r : DV} {Φ Φ' : List Int → Prop} {T : TypeId} (h0 : ∃ fn, P.funcs[f]? = some fn ∧ (fn.name == "runtime.NumGoroutine") = false ∧ fn.body.isNone = false)
    (h : ∀ g, Φ g → ∃ g', Φ' g' ∧ LiftsO P f args (.row T .int g) r (.row T .int g')) : LiftsO P f args (.cust (exR Φ T)) r (.cust (exR Φ' T)) := by
  refine ⟨h0, fun w X V F vs m hv => ?_⟩
  obtain ⟨y, fp, hy, hfp, ho⟩ := m.get (i := 0) (o := (OD.cust (exR Φ T)).ob) rfl
  obtain ⟨g, hΦ, hr⟩ := ex_row ho
  obtain ⟨g', hΦ', hL⟩ := h g hΦ
  have m1 : Mem ⟨w, X, F.flatten, V, 0⟩ [(OD.row T .int g).ob] V F w := mem_asOb m rfl fun i o o' x f h1 h2 h3 h4 h5 => by
    match i, h1, h2, h3, h4 with
    | 0, h1, h2, h3, h4 =>
      cases h1; cases h2
      rw [hy] at h3; cases h3
      rw [hfp] at h4; cases h4
      exact hr
    | i + 1, h1, _, _, _ => simp at h1
  refine (hL.2 w X V F vs m1 hv).mono ?_
  rintro e w' ⟨u, he, V', F', m2, e2, hu⟩
  refine ⟨u, he, V', F', mem_asOb m2 rfl fun i o o' x f h1 h2 h3 h4 h5 => ?_, e2, hu⟩
  match i, h1, h2 with
  | 0, h1, h2 =>
    cases h1; cases h2
    exact ex_of_row hΦ' h5
  | i + 1, h1, _ => simp at h1
/-- A row of the call's own, told as such an object. -/
theorem AWPD.exO {fr : DF} {H : List OD} {Q : Exit → DF → List OD → Prop} {c : Code} (i : Nat) {T : TypeId} {g : List Int} {Φ : List Int → Prop} (hΦ : Φ g) (hH : getOD H i = some (.row T .int g)) (h : AWPD P C c Q fr (setOD H i (.cust (exR Φ T)))) : AWPD P C c Q fr H := by
  refine AWP.conv (s' := ⟨frA fr, (setOD H i (.cust (exR Φ T))).map OD.ob⟩) (fun rd a w ⟨V, F, m, hd, hsz, hf⟩ => ⟨V, F, ?_, hd, hsz, hf⟩) h
  refine mem_asOb m (by simp [setOD_map]) fun k o o' x f h1 h2 h3 h4 h5 => ?_
  have k1 : (H.map OD.ob)[k]? = some o := h1
  have k2 : ((setOD H i (.cust (exR Φ T))).map OD.ob)[k]? = some o' := h2
  clear h1 h2
  rw [setOD_map, List.getElem?_set] at k2
  by_cases hik : i = k
  · subst hik
    rw [if_pos rfl] at k2
    split at k2
    · cases k2
      rw [getOD_map hH] at k1
      cases k1
      exact ex_of_row hΦ h5
    · cases k2
  · rw [if_neg hik, k1] at k2
    cases k2
    exact h5
end
/-- Who stands for whom. -/
def grpP (n : Nat) (ρ : Nat → Nat) (g : List Int) : Prop := UF g ∧ g.length = n ∧ ∀ k, k < n → root g k = ρ k
def grpO (n : Nat) (ρ : Nat → Nat) : OD := .cust (exR (grpP n ρ) 3)
def joinR (ρ : Nat → Nat) (i j : Nat) (k : Nat) : Nat := if ρ k = max (ρ i) (ρ j) then min (ρ i) (ρ j) else ρ k
theorem find_grp {n : Nat} {ρ : Nat → Nat} (i : Int) (hn : n ≤ 1000000) (hi : 0 ≤ i ∧ i.toNat < n) : LiftsO Tryd.prog 55 [.ob 0, .i i] (grpO n ρ) (.i ((ρ i.toNat : Nat) : Int)) (grpO n ρ) :=
  LiftsO.ex ⟨_, Tryd.func55, by kernel_rfl, rfl⟩ fun g ⟨u, hl, hr⟩ => by
    have f := findG_ok u hi.1 (by rw [hl]; exact hi.2)
    refine ⟨(findG g i).1, ⟨f.uf, by rw [f.len, hl], fun k hk => by rw [f.same, hr k hk]⟩, ?_⟩
    have := find_fn g i u hi.1 (by rw [hl]; exact hi.2) (by rw [hl]; exact hn)
    rw [f.is_, hr _ hi.2] at this
    exact this
theorem join_grp {n : Nat} {ρ : Nat → Nat} (i j : Int) (hn : n ≤ 1000000) (hi : 0 ≤ i ∧ i.toNat < n) (hj : 0 ≤ j ∧ j.toNat < n) : LiftsO Tryd.prog 54 [.ob 0, .i i, .i j] (grpO n ρ) (.b (decide (ρ i.toNat ≠ ρ j.toNat))) (grpO n (joinR ρ i.toNat j.toNat)) :=
  LiftsO.ex ⟨_, Tryd.func54, by kernel_rfl, rfl⟩ fun g ⟨u, hl, hr⟩ => by
    obtain ⟨J, hb⟩ := joinG_ok u hi.1 (by rw [hl]; exact hi.2) hj.1 (by rw [hl]; exact hj.2)
    refine ⟨(joinG g i j).1, ⟨J.uf, by rw [J.len, hl], fun k hk => by rw [J.roots, hr k hk, hr _ hi.2, hr _ hj.2]; rfl⟩, ?_⟩
    have := joinG_fn g i j u hi.1 (by rw [hl]; exact hi.2) hj.1 (by rw [hl]; exact hj.2) (by rw [hl]; exact hn)
    rw [hb, hr _ hi.2, hr _ hj.2] at this
    exact this
theorem grp_new (n : Nat) : grpP n id (idG n) := ⟨idG_uf n, idG_len n, fun k hk => idG_root hk⟩

end Go.Proofs.YtndoigkmdcgjfaaDoor
