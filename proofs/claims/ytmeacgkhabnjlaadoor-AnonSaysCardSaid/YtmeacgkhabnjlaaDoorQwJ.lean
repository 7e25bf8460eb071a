/-
  An abstract machine over the model's own code, part J: what the function says of one operation is so. No program is named here.
-/
import Derived.Test.YtmeacgkhabnjlaaDoorQwI
set_option linter.unusedSimpArgs false
set_option linter.unusedVariables false
set_option linter.unusedSectionVars false
namespace Go.Qw
open Go.RowKit

section
variable {P : Program} {C : Ctx} {tb : Tab} {ρ : Operand → Option DV} {ρA : Operand → Option AV} {H H' : List OD} {d : Option Nat} {t : TypeId} {p : String} {af : Array Edge} {g : Option (Nat × Bool)}

/-- The frame's facts, and the finer ones that the steps are shown from. -/
def Told (ρ : Operand → Option DV) (ρA : Operand → Option AV) : Prop := (∀ x a, ρ x = some a → ρA x = some a.av) ∧ ∀ u, ρA (.const u) = some (.v u)

theorem castL_map {τ τ' : Ty} (h : τ' = τ) (xs : List τ'.T) : (castL h xs).flatMap (gT τ) = xs.flatMap (gT τ') := by subst h; rfl
theorem castL_len {τ τ' : Ty} (h : τ' = τ) (xs : List τ'.T) : (castL h xs).length = xs.length := by subst h; rfl

theorem evsD_evs (hρ : Told ρ ρA) : ∀ {l : List Operand} {r : List DV}, evsD ρ l = some r → evs ρA l = some (DV.avs r)
  | [], r, h => by cases h; rfl
  | x :: l, r, h => by
    simp only [evsD] at h
    cases h1 : ρ x with
    | none => rw [h1] at h; cases h
    | some a =>
      rw [h1] at h
      cases h2 : evsD ρ l with
      | none => rw [h2] at h; cases h
      | some q =>
        rw [h2] at h
        cases h
        simp only [evs, hρ.1 _ _ h1, evsD_evs hρ h2, DV.avs]
theorem idxOK_range : ∀ (k : Nat) (l : List (Nat × Operand)), idxOK k l = true → l.map (·.1) = List.range' k l.length
  | _, [], _ => rfl
  | k, (j, x) :: r, h => by
    simp only [idxOK, Bool.and_eq_true] at h
    have : k = j := Nat.eq_of_beq_eq_true h.1
    subst this
    simp [List.range'_succ, idxOK_range (k + 1) r h.2]
theorem lenL_eq : ∀ l : List DV, lenL l = l.length
  | [] => rfl
  | _ :: r => by simp [lenL, lenL_eq r]
theorem avs_len (l : List DV) : (DV.avs l).length = l.length := by rw [DV.avs_map]; simp
theorem evsD_len : ∀ {l : List Operand} {r : List DV}, evsD ρ l = some r → r.length = l.length
  | [], r, h => by cases h; rfl
  | x :: l, r, h => by
    simp only [evsD] at h
    cases h1 : ρ x with
    | none => rw [h1] at h; cases h
    | some a =>
      rw [h1] at h
      cases h2 : evsD ρ l with
      | none => rw [h2] at h; cases h
      | some q => rw [h2] at h; cases h; simp [evsD_len h2]
theorem allCell_avs : ∀ l : List DV, allCell l = true → AV.cells1 (DV.avs l) = true
  | [], _ => rfl
  | d :: l, h => by
    simp only [allCell, Bool.and_eq_true] at h
    have h2 := allCell_avs l h.2
    simp only [AV.cells1] at h2 ⊢
    rw [DV.avs, List.all_cons, isCell_av h.1, h2]; rfl
theorem toTs_avs {τ : Ty} : ∀ {l : List DV} {xs : List τ.T}, toTs τ l = some xs → (DV.avs l).flatMap AV.cellsL = xs.flatMap (gT τ) ∧ ∀ a ∈ DV.avs l, a.cellsL.length = τ.size
  | [], xs, h => by cases h; exact ⟨rfl, fun a h => by cases h⟩
  | d :: l, xs, h => by
    simp only [toTs] at h
    cases h1 : toT τ d with
    | none => rw [h1] at h; cases h
    | some x =>
      rw [h1] at h
      cases h2 : toTs τ l with
      | none => rw [h2] at h; cases h
      | some r =>
        rw [h2] at h
        cases h
        obtain ⟨i1, i2⟩ := toTs_avs h2
        refine ⟨by rw [DV.avs, List.flatMap_cons, List.flatMap_cons, toT_spec _ _ _ h1, i1], fun a ha => ?_⟩
        rw [DV.avs] at ha
        rcases List.mem_cons.1 ha with rfl | ha
        · rw [toT_spec _ _ _ h1, gT_len]
        · exact i2 a ha
def avIB : AV → Bool
  | .v u => isIB u
  | .rd _ _ => true
  | _ => false
theorem allFlat_av : ∀ {l : List DV}, allFlat l = true → (DV.avs l).all avIB = true
  | [], _ => rfl
  | a :: l, h => by
    cases a with
    | i n => have := allFlat_av (l := l) h; simp only [DV.avs, List.all_cons, this, Bool.and_true]; rfl
    | b x => have := allFlat_av (l := l) h; simp only [DV.avs, List.all_cons, this, Bool.and_true]; rfl
    | sl τ xs => have := allFlat_av (l := l) h; simp only [DV.avs, List.all_cons, this, Bool.and_true]; rfl
    | nil => have := allFlat_av (l := l) h; simp only [DV.avs, List.all_cons, this, Bool.and_true]; rfl
    | _ => cases h
theorem VRep.ib {ok : Nat → Prop} {w : World} {V : List Value} {a : AV} {x : Value} (h : VRep ok w V a x) (hb : avIB a = true) : isIB x = true := by
  cases a with
  | v u => rw [VRep.v_iff.1 h]; exact hb
  | rd size cs =>
    unfold VRep at h
    obtain ⟨_, A, n, c, hx, _⟩ := h
    rw [hx]; rfl
  | _ => cases hb
theorem VReps.ib {ok : Nat → Prop} {w : World} {V : List Value} : ∀ {avs : List AV} {us : List Value}, VReps ok w V avs us → avs.all avIB = true → us.all isIB = true
  | [], us, h, _ => by unfold VReps at h; rw [h]; rfl
  | a :: avs, us, h, hb => by
    unfold VReps at h
    obtain ⟨x, r, rfl, h1, h2⟩ := h
    simp only [List.all_cons, Bool.and_eq_true] at hb
    simp only [List.all_cons, h1.ib hb.1, VReps.ib h2 hb.2, Bool.and_self]
theorem VReps.vals_eq {ok : Nat → Prop} {w : World} {V : List Value} : ∀ {us vs : List Value}, VReps ok w V (us.map .v) vs → vs = us
  | [], vs, h => by unfold List.map VReps at h; exact h
  | u :: us, vs, h => by
    unfold List.map VReps at h
    obtain ⟨x, r, rfl, h1, h2⟩ := h
    rw [VRep.v_iff.1 h1, VReps.vals_eq h2]

theorem VStep.build {ρ : Operand → Option AV} {H : List Ob} {T : TypeId} {n : Nat} {parts : Array (Nat × Operand)} {avs : List AV} (hargs : evs ρ (parts.toList.map (·.2)) = some avs) (hidx : parts.toList.map (·.1) = List.range n) (hT : BuildT P T n) (hib : avs.all avIB = true) :
    VStep P C ⟨d, .build T parts, t, p, af, g⟩ ρ H (.agg avs) H := fun σ w V F m hρ => by
  have hv := evs_get hargs fun x hx b hb => hρ x (by simpa [Op.operands] using hx) b hb
  generalize hus : parts.toList.map (fun q => σ q.2) = us at *
  have hv' : VReps (okB C w F) w V avs us := by
    have e : (parts.toList.map (·.2)).map σ = us := by rw [← hus, List.map_map]; rfl
    rw [e] at hv
    exact hv
  have hlen : us.length = n := by
    have h3 := congrArg List.length hidx
    have h4 := congrArg List.length hus
    simp at h3 h4
    omega
  have hpl : (parts.map fun (j, x) => (j, σ x)).toList = (List.range n).zip us := by
    rw [← hidx, ← hus, List.zip_map', Array.toList_map]
  refine .inl ⟨.agg us.toArray, w, .inl ?_, V, F, m, Ext.refl .., ?_⟩
  · simp only [execOp]
    rw [Sem.run_bind, run_build w T _ us.toArray (by rw [hpl]; exact hT us hlen (hv'.ib hib))]
    rfl
  · unfold VRep
    exact ⟨_, rfl, by simpa using hv'⟩

theorem avs_zeros : ∀ n : Nat, DV.avs (List.replicate n (.i 0)) = (List.replicate n (Value.int .i64 0)).map .v
  | 0 => rfl
  | n + 1 => by rw [List.replicate_succ, List.replicate_succ, DV.avs, avs_zeros n]; rfl
theorem VStep.buildZ {ρ : Operand → Option AV} {H : List Ob} {T : TypeId} {n : Nat} {parts : Array (Nat × Operand)} (hp : parts.toList = []) (hT : P.built T [] = some (List.replicate n (Value.int .i64 0)).toArray) :
    VStep P C ⟨d, .build T parts, t, p, af, g⟩ ρ H (DV.agg (List.replicate n (.i 0))).av H := fun σ w V F m hρ => by
  have hpl : (parts.map fun (j, x) => (j, σ x)).toList = [] := by rw [Array.toList_map, hp]; rfl
  refine .inl ⟨.agg (List.replicate n (Value.int .i64 0)).toArray, w, .inl ?_, V, F, m, Ext.refl .., ?_⟩
  · simp only [execOp]
    rw [Sem.run_bind, run_build w T _ (List.replicate n (Value.int .i64 0)).toArray (by rw [hpl]; exact hT)]
    rfl
  · simp only [DV.av, avs_zeros]
    unfold VRep
    exact ⟨_, rfl, VReps.vals _⟩

theorem lenF_ok (ok : TabOK P tb) (hρ : Told ρ ρA) {x : Operand} {T : TypeId} {a : DV} {q : Option Prop} {ch : Bool} (h : lenF tb ρ H x T = some (a, H', q, ch)) : VStep P C ⟨d, .call { callee := .builtin .len, args := #[x], argTypes := #[T] }, t, p, af, g⟩ ρA (H.map OD.ob) a.av (H'.map OD.ob) ∧ (ch = false → H' = H) := by
  unfold lenF at h
  split at h
  · rename_i q hq
    have hT := (ok.sl _ (findT_mem hq)).1.1
    split at h
    · rename_i hx
      cases h
      exact ⟨VStep.len (hρ.1 _ _ hx) (gT_len _) hT, fun _ => rfl⟩
    · rename_i hx
      cases h
      exact ⟨VStep.lenNil (hρ.1 _ _ hx) hT, fun _ => rfl⟩
    · rename_i hx
      split at h
      · rename_i hg
        cases h
        exact ⟨VStep.lenO (hρ.1 _ _ hx) (getOD_map hg) (gT_len _) hT, fun _ => rfl⟩
      · cases h
    · cases h
  · cases h

theorem if_some {α : Type} {c : Prop} [Decidable c] {f : c → Option α} {r : α} (h : (if h : c then f h else none) = some r) : ∃ h : c, f h = some r := by
  by_cases hc : c
  · exact ⟨hc, by simpa [hc] using h⟩
  · simp [hc] at h
theorem bif_some {α : Type} {c : Bool} {x : Option α} {r : α} (h : (bif c then x else none) = some r) : c = true ∧ x = some r := by
  cases c with
  | true => exact ⟨rfl, h⟩
  | false => cases h

theorem appF_ok (ok : TabOK P tb) (hρ : Told ρ ρA) {s x : Operand} {T : TypeId} {a : DV} {q : Option Prop} {ch : Bool} (h : appF tb ρ H s x T = some (a, H', q, ch)) (hq : holdsO q) :
    VStep P C ⟨d, .call { callee := .builtin .append, args := #[s, x], argTypes := #[T, T] }, t, p, af, g⟩ ρA (H.map OD.ob) a.av (H'.map OD.ob) ∧ (ch = false → H' = H) := by
  unfold appF at h
  split at h
  · rename_i e τ bytes hf
    have hT := (ok.sl _ (findT_mem hf)).2
    split at h
    · rename_i τ' ys hx
      obtain ⟨h1, h⟩ := if_some h
      subst h1
      have hx' := hρ.1 _ _ hx
      split at h
      · rename_i hs
        cases h
        refine ⟨?_, fun h => by cases h⟩
        have := VStep.appendNil (P := P) (C := C) (d := d) (t := t) (p := p) (af := af) (g := g) (H := H.map OD.ob) (gg := gT τ') ys (hρ.1 _ _ hs) hx' hT rfl (gT_len _) (cells1_flatMap (gT_cells1 τ') ys) hq.1 hq.2
        simpa [DV.av, lenOD_map, OD.ob, castL] using this
      · rename_i k hs
        split at h
        · rename_i e' τ'' xs hg
          obtain ⟨h2, h⟩ := if_some h
          subst h2
          obtain ⟨h3, h⟩ := bif_some h
          have h3 := Nat.eq_of_beq_eq_true h3
          subst h3
          cases h
          refine ⟨?_, fun h => by cases h⟩
          have := VStep.append (P := P) (C := C) (d := d) (t := t) (p := p) (af := af) (g := g) (H := H.map OD.ob) (gg := gT τ'') ys (hρ.1 _ _ hs) hx' (getOD_map hg) hT rfl (gT_len _) (cells1_flatMap (gT_cells1 τ'') ys) hq.1 hq.2
          simpa [DV.av, lenOD_map, OD.ob, castL, setOD_map] using this
        · cases h
      · cases h
    · cases h
  · cases h

theorem cell_of {τ : Ty} {xs : List τ.T} {k j : Nat} {a : DV} (h : cAt τ xs k j = some a) (hk : k < xs.length) : (gT τ xs[k])[j]? = some a.av := by
  rw [cAt_eq, getD_get hk] at h
  exact cT_spec _ _ _ _ h
theorem ob_cells_row (e : TypeId) (τ : Ty) (xs : List τ.T) : (OD.row e τ xs).ob.cells = some (xs.flatMap (gT τ)) := rfl
theorem intsD_avs : ∀ xs : List Int, DV.avs (intsD xs) = xs.map iv
  | [] => rfl
  | a :: r => by rw [intsD, DV.avs, intsD_avs r]; rfl
theorem ints_cells (xs : List Int) : (xs : List (Ty.int).T).flatMap (gT .int) = xs.map iv := by
  induction xs with
  | nil => rfl
  | cons a r ih => rw [List.flatMap_cons, ih]; rfl
theorem toIs_avs : ∀ {l : List DV} {ys : List Int}, toIs l = some ys → DV.avs l = ys.map iv ∧ allCell l = true ∧ l.length = ys.length
  | [], ys, h => by cases h; exact ⟨rfl, rfl, rfl⟩
  | d :: l, ys, h => by
    cases d <;> simp only [toIs] at h <;> first | (exact absurd h (by simp)) | skip
    rename_i a
    cases hr : toIs l with
    | none => rw [hr] at h; cases h
    | some r =>
      rw [hr] at h
      cases h
      obtain ⟨h1, h2, h3⟩ := toIs_avs hr
      refine ⟨by rw [DV.avs, h1]; rfl, by simp [allCell, isCell, h2], by simp [h3]⟩
theorem ob_cells_arr (e : TypeId) (τ : Ty) (xs : List τ.T) : (OD.arr e τ xs).ob.cells = some (xs.flatMap (gT τ)) := rfl
theorem ob_cells_box (e : TypeId) (l : List DV) : (OD.box e l).ob.cells = some (DV.avs l) := rfl
theorem elem_cells {τ : Ty} (xs : List τ.T) {k : Nat} (hk : k < xs.length) : ((xs.flatMap (gT τ)).drop (k * τ.size)).take τ.size = gT τ xs[k] := by
  rw [flatMap_drop (gT_len τ) xs k, show xs.drop k = xs[k] :: xs.drop (k + 1) from List.drop_eq_getElem_cons hk, List.flatMap_cons, List.take_append_of_le_length (by rw [gT_len]; exact Nat.le_refl _), List.take_of_length_le (by rw [gT_len]; exact Nat.le_refl _)]

theorem loadF_ok (ok : TabOK P tb) (hρ : Told ρ ρA) {x : Operand} {T : TypeId} {b a : DV} {q : Option Prop} (hx : ρ x = some b) (h : loadF tb H T b = some (a, q)) (hq : holdsO q) :
    VStep P C ⟨d, .load T x, t, p, af, g⟩ ρA (H.map OD.ob) a.av (H.map OD.ob) := by
  have hxA := hρ.1 _ _ hx
  unfold loadF at h
  cases hs : hasT tb.scal T with
  | true =>
    rw [hs] at h
    have hT := (ok.scal _ (hasT_mem hs)).1
    simp only [cond_true] at h
    split at h
    · split at h
      · rename_i hc
        cases h
        exact VStep.load hxA hT (gT_len _) hq (cell_of hc hq)
      · cases h
    · split at h
      · rename_i hc
        cases h
        exact VStep.loadAt hxA hT (avs_get _ _ _ (by rw [← getL_eq]; exact hc))
      · cases h
    · split at h
      · rename_i hg
        obtain ⟨h1, h⟩ := if_some h
        subst h1
        split at h
        · rename_i hc
          cases h
          exact VStep.loadO hxA (getOD_map hg) (ob_cells_row _ _ _) hT (gT_len _) hq (cell_of hc hq)
        · cases h
      · rename_i hg
        obtain ⟨h1, h⟩ := if_some h
        subst h1
        split at h
        · rename_i hc
          cases h
          exact VStep.loadO hxA (getOD_map hg) (ob_cells_arr _ _ _) hT (gT_len _) hq (cell_of hc hq)
        · cases h
      · cases h
    · split at h
      · rename_i hg
        split at h
        · rename_i hc
          cases h
          exact VStep.loadOAt hxA (getOD_map hg) (ob_cells_box _ _) hT (avs_get _ _ _ (by rw [← getL_eq]; exact hc))
        · cases h
      · cases h
    · cases h
  | false =>
    rw [hs] at h
    simp only [cond_false] at h
    split at h
    · rename_i sz hf
      have hT := ok.agg _ (findT_mem hf)
      split at h
      · rename_i τ xs k
        obtain ⟨h1, h⟩ := bif_some h
        have h1 := Nat.eq_of_beq_eq_true h1
        simp only at hT
        rw [← h1] at hT
        split at h
        · rename_i he
          cases h
          have hk : k < xs.length := hq
          have := (eAt_eq he).2
          rw [getD_get hk] at this
          rw [this]
          exact VStep.loadAgg hxA hT (gT_len _) hk
        · cases h
      · rename_i l
        obtain ⟨h1, h⟩ := bif_some h
        have h1 := Nat.eq_of_beq_eq_true h1
        cases h
        refine VStep.loadAggAt hxA hT (by rw [avs_len, ← lenL_eq]; exact h1) ?_
        rw [List.drop_zero, List.take_of_length_le (by rw [avs_len, ← lenL_eq]; exact Nat.le_of_eq h1)]
      · rename_i n τ k
        split at h
        · rename_i hg
          obtain ⟨h2, h⟩ := if_some h
          subst h2
          obtain ⟨h1, h⟩ := bif_some h
          have h1 := Nat.eq_of_beq_eq_true h1
          simp only at hT
          rw [← h1] at hT
          split at h
          · rename_i he
            cases h
            have hk := hq
            simp only [holdsO] at hk
            have := (eAt_eq he).2
            rw [getD_get (by simpa [castL] using hk)] at this
            rw [this]
            exact VStep.loadOAggAt hxA (getOD_map hg) (ob_cells_row _ _ _) hT (gT_len _ _) (by simpa [castL] using elem_cells _ hk)
          · cases h
        · cases h
      · rename_i n
        split at h
        · rename_i l hg
          obtain ⟨h1, h⟩ := bif_some h
          have h1 := Nat.eq_of_beq_eq_true h1
          cases h
          refine VStep.loadOAggAt hxA (getOD_map hg) (ob_cells_box _ _) hT (by rw [avs_len, ← lenL_eq]; exact h1) ?_
          rw [List.drop_zero, List.take_of_length_le (by rw [avs_len, ← lenL_eq]; exact Nat.le_of_eq h1)]
        · rename_i tt xs hg
          cases h
          simp only [holdsO] at hq
          refine VStep.loadOAggAt hxA (getOD_map hg) (ob_cells_arr _ _ _) hT (by rw [intsD_avs, List.length_map]; exact hq) ?_
          rw [List.drop_zero, intsD_avs, ints_cells, List.take_of_length_le (by rw [List.length_map]; exact Nat.le_of_eq hq)]
        · cases h
      · cases h
    · cases h

theorem avs_set (l : List DV) (c : Nat) (v : DV) : (DV.avs l).set c v.av = DV.avs (l.set c v) := by simp [DV.avs_map, List.map_set]

theorem storeF_ok (ok : TabOK P tb) (hρ : Told ρ ρA) {x y : Operand} {T : TypeId} {b v : DV} {q : Option Prop} (hx : ρ x = some b) (hy : ρ y = some v) (h : storeF tb H T b v = some (H', q)) (hq : holdsO q) :
    VStep P C ⟨d, .store T x y, t, p, af, g⟩ ρA (H.map OD.ob) (.v undef) (H'.map OD.ob) := by
  have hxA := hρ.1 _ _ hx
  have hyA := hρ.1 _ _ hy
  unfold storeF at h
  cases hs : hasT tb.scal T with
  | true =>
    rw [hs] at h
    have hT := (ok.scal _ (hasT_mem hs)).2
    simp only [cond_true] at h
    split at h
    · split at h
      · rename_i hg
        obtain ⟨h1, h⟩ := if_some h
        subst h1
        split at h
        · rename_i hc
          cases h
          obtain ⟨c1, c2, c3⟩ := sT_spec hc
          have hk := hq
          simp only [holdsO] at hk
          rw [getD_get (by simpa [castL] using hk)] at c1
          rw [setOD_map]
          exact VStep.storeO hxA hyA (getOD_map hg) (ob_cells_row _ _ _) hT c3 (gT_len _) c2 hk c1
        · cases h
      · rename_i hg
        obtain ⟨h1, h⟩ := if_some h
        subst h1
        split at h
        · rename_i hc
          cases h
          obtain ⟨c1, c2, c3⟩ := sT_spec hc
          have hk := hq
          simp only [holdsO] at hk
          rw [getD_get (by simpa [castL] using hk)] at c1
          rw [setOD_map]
          exact VStep.storeO hxA hyA (getOD_map hg) (ob_cells_arr _ _ _) hT c3 (gT_len _) c2 hk c1
        · cases h
      · cases h
    · rename_i n c
      split at h
      · rename_i tt l hg
        obtain ⟨h1, h⟩ := bif_some h
        simp only [Bool.and_eq_true, Nat.blt_eq] at h1
        cases h
        rw [setOD_map]
        have := VStep.storeAt (P := P) (C := C) (d := d) (t := t) (p := p) (af := af) (g := g) hxA hyA (getOD_map hg) (ob_cells_box _ _) hT (isCell_av h1.1) (by rw [avs_len, ← lenL_eq]; exact h1.2)
        rw [avs_set] at this
        exact this
      · cases h
    · cases h
  | false =>
    rw [hs] at h
    simp only [cond_false] at h
    split at h
    · rename_i sz hf
      have hT := (ok.agg _ (findT_mem hf)).2
      split at h
      · rename_i n l
        split at h
        · rename_i tt l' hg
          obtain ⟨h1, h⟩ := bif_some h
          simp only [Bool.and_eq_true] at h1
          have e1 := Nat.eq_of_beq_eq_true h1.1.1
          have e2 := Nat.eq_of_beq_eq_true h1.1.2
          rw [lenL_eq] at e1 e2
          cases h
          rw [setOD_map]
          have := VStep.storeAggAt (P := P) (C := C) (d := d) (t := t) (p := p) (af := af) (g := g) hxA hyA (getOD_map hg) (ob_cells_box _ _) hT (by rw [avs_len]; exact e1) (allCell_avs _ h1.2) (by rw [avs_len, e2]; omega)
          rw [List.take_zero, List.nil_append, List.drop_of_length_le (by rw [avs_len, e2]; omega), List.append_nil] at this
          exact this
        · rename_i tt xs hg
          cases hys : toIs l with
          | none => rw [hys] at h; cases h
          | some ys =>
            rw [hys] at h
            simp only at h
            obtain ⟨h1, h⟩ := bif_some h
            cases h
            simp only [holdsO] at hq
            obtain ⟨c1, c2, c3⟩ := toIs_avs hys
            have e1 := Nat.eq_of_beq_eq_true h1
            rw [lenL_eq] at e1
            rw [setOD_map]
            have := VStep.storeAggAt (P := P) (C := C) (d := d) (t := t) (p := p) (af := af) (g := g) hxA hyA (getOD_map hg) (ob_cells_arr _ _ _) hT (by rw [avs_len]; exact e1) (allCell_avs _ c2) (by rw [ints_cells, List.length_map, hq]; omega)
            rw [List.take_zero, List.nil_append, List.drop_of_length_le (by rw [ints_cells, List.length_map, hq]; omega), List.append_nil, c1] at this
            rw [show (OD.arr tt .int ys).ob = .box tt (ys.map iv) from by show Ob.box tt (ys.flatMap (gT .int)) = _; rw [ints_cells]]
            exact this
        · cases h
      · cases h
    · cases h

theorem toNat_eq {n : Int} (h : 0 ≤ n) : ((n.toNat : Nat) : Int) = n := by omega

theorem addrF_ok (ok : TabOK P tb) (hρ : Told ρ ρA) {x y : Operand} {T : TypeId} {b r : DV} {n : Int} {q : Option Prop} (hx : ρ x = some b) (hy : ρ y = some (.i n)) (h : addrF tb H T b n = some (r, q)) (hq : holdsO q) :
    VStep P C ⟨d, .indexAddr T x y, t, p, af, g⟩ ρA (H.map OD.ob) r.av (H.map OD.ob) := by
  have hxA := hρ.1 _ _ hx
  have hyA := hρ.1 _ _ hy
  unfold addrF at h
  split at h
  · split at h
    · rename_i hf
      obtain ⟨h1, h⟩ := bif_some h
      have h1 := Nat.eq_of_beq_eq_true h1
      have hT := (ok.sl _ (findT_mem hf)).1
      simp only at hT
      rw [h1] at hT
      cases h
      exact VStep.indexAddrI hxA hyA (gT_len _) hT hq
    · cases h
  · split at h
    · rename_i hf
      have hT := (ok.sl _ (findT_mem hf)).1
      split at h
      · rename_i hg
        obtain ⟨h1, h⟩ := bif_some h
        have h1 := Nat.eq_of_beq_eq_true h1
        simp only at hT
        rw [h1] at hT
        cases h
        exact VStep.indexAddrOI hxA hyA (getOD_map hg) (gT_len _) hT hq
      · cases h
    · cases h
  · split at h
    · rename_i hf
      cases h
      have hT := (ok.arr _ (findT_mem hf)).1
      exact VStep.indexAddrR hxA hyA hT hq
    · cases h
  · split at h
    · rename_i hf
      have hT := (ok.arr _ (findT_mem hf)).1
      split at h
      · rename_i τ xs hg
        obtain ⟨h1, h⟩ := bif_some h
        have h1 := Nat.eq_of_beq_eq_true h1
        cases h
        have := VStep.indexAddrB (P := P) (C := C) (d := d) (t := t) (p := p) (af := af) (g := g) (gg := gT τ) hxA hyA (getOD_map hg) hT hq
        simp only [DV.av, h1]
        exact this
      · cases h
    · cases h
  · cases h

theorem sliceF_ok2 {H2 : List Ob} (ok : TabOK P tb) (hρ : Told ρ ρA) {x lo hi : Operand} {T : TypeId} {b r l h' : DV} {q : Option Prop} (hx : ρ x = some b) (hlo : ρ lo = some l) (hhi : ρ hi = some h') (h : sliceF tb T b (some l) (some h') = some (r, q)) (hq : holdsO q) :
    VStep P C ⟨d, .slice T x (some lo) (some hi) none, t, p, af, g⟩ ρA (H2) r.av (H2) := by
  have hxA := hρ.1 _ _ hx
  have hlA := hρ.1 _ _ hlo
  have hhA := hρ.1 _ _ hhi
  unfold sliceF at h
  split at h
  · split at h
    · rename_i hf
      obtain ⟨h1, h9⟩ := bif_some h
      clear h
      have h1 := Nat.eq_of_beq_eq_true h1
      have hT := (ok.sl _ (findT_mem hf)).1
      simp only at hT
      rw [h1] at hT
      split at h9
      · rename_i l0 h0 e1 e2
        cases e1
        cases e2
        cases h9
        simp only [holdsO] at hq
        have n1 := toNat_eq hq.1
        have n2 := toNat_eq (n := h0) (by omega)
        refine VStep.slice (l := l0.toNat) (h := h0.toNat) hxA (by rw [n1]; exact hlA) (by rw [n2]; exact hhA) (gT_len _) hT (by omega)
      · rename_i e1 e2; cases e2
      · rename_i e1 e2; cases e1
      · cases h9
    · cases h
  · split at h
    · split at h
      · rename_i e1 e2; cases e1
      · cases h
    · cases h
  · cases h
theorem sliceF_ok1 {H2 : List Ob} (ok : TabOK P tb) (hρ : Told ρ ρA) {x lo : Operand} {T : TypeId} {b r l : DV} {q : Option Prop} (hx : ρ x = some b) (hlo : ρ lo = some l) (h : sliceF tb T b (some l) none = some (r, q)) (hq : holdsO q) :
    VStep P C ⟨d, .slice T x (some lo) none none, t, p, af, g⟩ ρA (H2) r.av (H2) := by
  have hxA := hρ.1 _ _ hx
  have hlA := hρ.1 _ _ hlo
  unfold sliceF at h
  split at h
  · split at h
    · rename_i hf
      obtain ⟨h1, h9⟩ := bif_some h
      clear h
      have h1 := Nat.eq_of_beq_eq_true h1
      have hT := (ok.sl _ (findT_mem hf)).1
      simp only at hT
      rw [h1] at hT
      split at h9
      · rename_i e1 e2; cases e2
      · rename_i l0 e1 e2
        cases e1
        cases h9
        simp only [holdsO] at hq
        have n1 := toNat_eq hq.1
        refine VStep.sliceLo (l := l0.toNat) hxA (by rw [n1]; exact hlA) (gT_len _) hT (by omega)
      · rename_i e1 e2; cases e1
      · cases h9
    · cases h
  · split at h
    · split at h
      · rename_i e1 e2; cases e1
      · cases h
    · cases h
  · cases h
theorem sliceF_ok0 {H2 : List Ob} (ok : TabOK P tb) (hρ : Told ρ ρA) {x hi : Operand} {T : TypeId} {b r h' : DV} {q : Option Prop} (hx : ρ x = some b) (hhi : ρ hi = some h') (h : sliceF tb T b none (some h') = some (r, q)) (hq : holdsO q) :
    VStep P C ⟨d, .slice T x none (some hi) none, t, p, af, g⟩ ρA (H2) r.av (H2) := by
  have hxA := hρ.1 _ _ hx
  have hhA := hρ.1 _ _ hhi
  unfold sliceF at h
  split at h
  · split at h
    · rename_i hf
      obtain ⟨h1, h9⟩ := bif_some h
      clear h
      have h1 := Nat.eq_of_beq_eq_true h1
      have hT := (ok.sl _ (findT_mem hf)).1
      simp only at hT
      rw [h1] at hT
      split at h9
      · rename_i e1 e2; cases e1
      · rename_i e1 e2; cases e1
      · rename_i h0 e1 e2
        cases e2
        cases h9
        simp only [holdsO] at hq
        have n2 := toNat_eq (n := h0) (by omega)
        refine VStep.sliceHi (h := h0.toNat) hxA (by rw [n2]; exact hhA) (gT_len _) hT (by omega)
      · cases h9
    · cases h
  · split at h
    · rename_i xs _ e9 n hf
      split at h
      · rename_i h0 e1 e2
        cases e2
        cases h
        simp only [holdsO] at hq
        have n2 := toNat_eq hq.1
        have hA := (ok.arr _ (findT_mem hf)).1
        have := VStep.sliceArr (P := P) (C := C) (H := H2) (d := d) (t := t) (p := p) (af := af) (g := g) (cs := (xs : List (Ty.int).T).flatMap (gT .int)) (n := n) (h := h0.toNat) (k := .i64) hxA (by rw [n2]; exact hhA) hA (by rw [flatMap_len (size := 1) (gT_len .int), Nat.mul_one]; exact hq.2.2.1) (by unfold maxLen; omega) (by omega)
        have e := flatMap_take (size := 1) (g := gT .int) (gT_len .int) xs h0.toNat
        rw [Nat.mul_one] at e
        rw [e] at this
        exact this
      · cases h
    · cases h
  · cases h
end
end Go.Qw
