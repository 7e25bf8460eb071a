/-
  An abstract machine over the model's own code: calls of slices.Sort and slices.Compact at []int on a slice of the call's own. No program is named here.
-/
import Derived.Test.YtkncfjcmhaaafaaQwU
import Derived.Shelf.Sort.Plain
import Derived.Shelf.Slices.In.SortNone
import Derived.Shelf.Slices.In.CompactI
import Derived.Sort.OwnSortedInts
import Derived.Lib.RowBridge
namespace Go.Qw
open Go.RowKit Go.Sort Go.Proofs Go.Shelf
def sortI (xs : List Int) : List Int := xs.mergeSort fun x y => decide (x ≤ y)
theorem sortI_len (xs : List Int) : (sortI xs).length = xs.length := List.length_mergeSort _
structure SortsI (P : Program) (f : FuncId) : Prop where
  fn : ∃ fn, P.funcs[f]? = some fn ∧ (fn.name == "runtime.NumGoroutine") = false ∧ fn.body.isNone = false
  more : ∀ (blk off cap : Nat) (zs : List Int) (w : World), Holds (Value.int .i64) w blk off zs.toArray → blk < w.heap.size → zs.length < 4611686018427387904 →
    Calls P f #[.slice (some ⟨blk, off, none⟩) zs.length cap] w fun e w' => e = .returned (.tuple #[]) ∧ ∃ n os, w' = grow (putRow (Value.int .i64) (Sort.ahead w n) blk off (sortI zs).toArray) os
  none : ∀ (p : Option Addr) (cap : Nat) (w : World), Calls P f #[.slice p 0 cap] w fun e w' => e = .returned (.tuple #[]) ∧ w' = w
structure CompactsI (P : Program) (f : FuncId) : Prop where
  fn : ∃ fn, P.funcs[f]? = some fn ∧ (fn.name == "runtime.NumGoroutine") = false ∧ fn.body.isNone = false
  more : ∀ (blk off cap : Nat) (zs : List Int) (w : World), Holds (Value.int .i64) w blk off zs.toArray → zs.length ≤ 9223372036854775807 → zs.length ≤ cap →
    Calls P f #[.slice (some ⟨blk, off, none⟩) zs.length cap] w fun e w' => e = .returned (.slice (some ⟨blk, off, none⟩) (Lib.compact zs).length cap) ∧ ∃ q, w' = putRow (Value.int .i64) (Sort.ahead w q) blk off (Lib.compact zs ++ List.replicate (zs.length - (Lib.compact zs).length) 0).toArray
  none : ∀ (p : Option Addr) (cap : Nat) (w : World), Calls P f #[.slice p 0 cap] w fun e w' => e = .returned (.slice p 0 cap) ∧ w' = w
section
variable {P : Program} {C : Ctx} {tb : Tab} {fr : DF} {d : Option Nat} {t : TypeId} {p : String} {af : Array Edge} {g : Option (Nat × Bool)}
theorem reps_i64s {ok : Nat → Prop} {w : World} {V : List Value} : ∀ (x : List Int), VReps ok w V (x.map iv) (x.map (.int .i64))
  | [] => by unfold VReps; rfl
  | a :: l => by
    simp only [List.map_cons]
    unfold VReps
    exact ⟨_, _, rfl, by unfold VRep; rfl, reps_i64s l⟩
theorem frees_iv : ∀ (x : List Int), AV.frees (x.map iv) = true
  | [] => rfl
  | a :: l => by simp only [List.map_cons, AV.frees, frees_iv l, Bool.and_true]; rfl
theorem row_holds {ok : Nat → Prop} {w : World} {V : List Value} {x : Value} {f : List Nat} {e : TypeId} {xs : List Int} (h : ORep ok w V x f (.row e 1 (xs.map iv))) :
    f = x.ownBlock.toList ∧ ((x = .slice none 0 0 ∧ xs = []) ∨ ∃ g cap cur, x = .slice (some ⟨g, 0, none⟩) xs.length cap ∧ w.heap[g]? = some (.cells cur e (0, 0)) ∧ xs.length ≤ cap ∧ cap ≤ maxLen ∧ cur.size = cap ∧ cur.toList.take xs.length = xs.map (.int .i64)) := by
  unfold ORep at h
  obtain ⟨_, n, us, hrow, hlen, hreps, hfe⟩ := h
  have hus := avs_i64s hreps
  have hn : n = xs.length := by simp at hlen; omega
  subst hn hus
  refine ⟨hfe, ?_⟩
  rcases hrow.2 with ⟨h0, hn0⟩ | ⟨g, cap, cur, h1, _, h2, h3, h4, h5, h6⟩
  · exact .inl ⟨h0, List.eq_nil_of_length_eq_zero hn0⟩
  · exact .inr ⟨g, cap, cur, h1, h2, h3, h4, by omega, by rw [Nat.mul_one] at h6; exact h6⟩
theorem holds_row {ok : Nat → Prop} {w : World} {V : List Value} {e : TypeId} {xs : List Int} {g cap : Nat} {cur : Array Value} (h2 : w.heap[g]? = some (.cells cur e (0, 0))) (h3 : xs.length ≤ cap) (h4 : cap ≤ maxLen) (h5 : cur.size = cap) (h6 : cur.toList.take xs.length = xs.map (.int .i64)) :
    ORep ok w V (.slice (some ⟨g, 0, none⟩) xs.length cap) [g] (.row e 1 (xs.map iv)) := by
  unfold ORep
  exact ⟨by decide, xs.length, xs.map (.int .i64), ⟨by simp, .inr ⟨g, cap, cur, rfl, Nat.zero_le _, h2, h3, h4, by omega, by rw [Nat.mul_one]; exact h6⟩⟩, by simp, reps_i64s xs, rfl⟩
theorem VStep.sortI {f : FuncId} (hs : SortsI P f) {x : Operand} {ats : Array TypeId} {i : Nat} {e : TypeId} {xs : List Int} {ρ : Operand → Option AV} {H : List Ob} (hf0 : ρ (.func f) = some (.v (.func (.func f) #[] #[]))) (hx : ρ x = some (.ob i)) (hH : H[i]? = some (.row e 1 (xs.map iv))) (hl : xs.length < 4611686018427387904) :
    VStep P C ⟨d, .call { callee := .value (.func f), args := #[x], argTypes := ats }, t, p, af, g⟩ ρ H (.tup []) (H.set i (.row e 1 ((Qw.sortI xs).map iv))) := fun σ w V F m hρ => by
  have hσ : σ (.func f) = .func (.func f) #[] #[] := VRep.v_iff.1 (hρ (.func f) (by simp [Op.operands, Call.operands]) _ hf0)
  have hv := hρ x (by simp [Op.operands, Call.operands]) _ hx
  unfold VRep at hv
  obtain ⟨y, fp, hy, hfp, ho⟩ := m.get hH
  rw [hv] at hy
  cases hy
  obtain ⟨⟨fn, hf, hname, hb⟩, hsome, hnone⟩ := hs
  refine .inr ⟨f, #[σ x], ?_, ?_⟩
  · simp only [execOp, resolve, hσ, Deferred.ofValue, invoke, Sem.run_bind, Sem.run_pure, Result.andThen_ok]
    simpa using run_call hf hname hb #[σ x] w
  · have htup : ∀ (ok : Nat → Prop) (w' : World) (V' : List Value), VRep ok w' V' (.tup []) (.tuple #[]) := fun ok w' V' => by
      unfold VRep VReps
      exact ⟨_, rfl, rfl⟩
    obtain ⟨hfe, hc⟩ := row_holds ho
    rcases hc with ⟨h0, rfl⟩ | ⟨g', cap, cur, h1, h2, h3, h4, h5, h6⟩
    · have e0 : Qw.sortI [] = [] := by unfold Qw.sortI; simp
      rw [h0, e0]
      refine (hnone none 0 w).mono ?_
      rintro e1 w' ⟨rfl, rfl⟩
      have hset : H.set i (.row e 1 (([] : List Int).map iv)) = H := by
        refine List.ext_getElem? fun j => ?_
        rw [List.getElem?_set]
        by_cases hij : i = j
        · subst hij; rw [if_pos rfl, hH]; split
          · rfl
          · rename_i hlt; exact absurd (List.getElem?_eq_some_iff.1 hH).1 hlt
        · rw [if_neg hij]
      rw [hset]
      exact ⟨_, rfl, V, F, m, Ext.refl _ _ _ _, htup _ _ _⟩
    · rw [h1]
      have hHo : Holds (Value.int .i64) w g' 0 xs.toArray := holds_of_blockI h2 h6
      have hg : g' < w.heap.size := (Array.getElem?_eq_some_iff.1 h2).1
      refine (hsome g' 0 cap xs w hHo hg hl).mono ?_
      rintro e1 w' ⟨rfl, n2, os, rfl⟩
      have hfe : fp = [g'] := by rw [hfe, h1]; rfl
      subst hfe
      obtain ⟨k1, k2, k3, k4, k5⟩ := grownBy_sortedI (w := w) (g := g') (n := n2) (os := os) (Qw.sortI xs).toArray
      obtain ⟨m', e'⟩ := m.set (w' := grow (putRow (Value.int .i64) (Sort.ahead w n2) g' 0 (Qw.sortI xs).toArray) os) i (.row e 1 ((Qw.sortI xs).map iv)) [g'] [g'] (σ x) hv hfp k1 k2 k3 k4 (fun b hb hn => k5 b hb (fun hh => hn (by cases hh; simp))) (fun b hb => ⟨by obtain rfl := List.mem_singleton.1 hb; simp; omega, .inl hb⟩) (fun _ => by
        rw [h1]
        have hl2 := Qw.sortI_len xs
        have := holds_row (ok := okB C (grow (putRow (Value.int .i64) (Sort.ahead w n2) g' 0 (Qw.sortI xs).toArray) os) (F.set i [g'])) (V := V) (xs := Qw.sortI xs) (heap_sortedI (w := w) (n := n2) (os := os) (Qw.sortI xs).toArray h2) (by omega) h4 (by simp [putCells, h5]) (take_putCellsI cur (Qw.sortI xs) (by omega))
        rwa [hl2] at this)
      exact ⟨_, rfl, _, _, m', e', htup _ _ _⟩
/-- A call of slices.Sort. -/
theorem StepD.sortI {f : FuncId} (hs : SortsI P f) {x : Operand} {ats : Array TypeId} {i : Nat} {e : TypeId} {xs : List Int} {H : List OD} (hx : evS tb.E fr x = some (.ob i)) (hH : getOD H i = some (.row e .int xs)) (hl : xs.length < 4611686018427387904) :
    StepD P C tb fr ⟨d, .call { callee := .value (.func f), args := #[x], argTypes := ats }, t, p, af, g⟩ H (.tup []) (setOD H i (.row e .int (Qw.sortI xs))) := fun _ hρ => by
  rw [setOD_map]
  have h1 := getOD_map hH
  rw [show (OD.row e .int xs).ob = .row e 1 (xs.map iv) by show Ob.row e 1 (xs.flatMap (gT .int)) = _; rw [ints_cells]] at h1
  have := VStep.sortI (P := P) (C := C) (d := d) (t := t) (p := p) (af := af) (g := g) (ats := ats) hs (hρ.1 (.func f) _ rfl) (hρ.1 _ _ hx) h1 hl
  rw [show (OD.row e .int (Qw.sortI xs)).ob = .row e 1 ((Qw.sortI xs).map iv) by show Ob.row e 1 ((Qw.sortI xs).flatMap (gT .int)) = _; rw [ints_cells]]
  exact this
theorem VStep.compactI (hC : C.F0 = []) {f : FuncId} (hs : CompactsI P f) {x : Operand} {ats : Array TypeId} {i : Nat} {e : TypeId} {xs : List Int} {ρ : Operand → Option AV} {H : List Ob} (hf0 : ρ (.func f) = some (.v (.func (.func f) #[] #[]))) (hx : ρ x = some (.ob i)) (hH : H[i]? = some (.row e 1 (xs.map iv))) :
    VStep P C ⟨d, .call { callee := .value (.func f), args := #[x], argTypes := ats }, t, p, af, g⟩ ρ H (.rd 1 ((Lib.compact xs).map iv)) (H.set i .dead) := fun σ w V F m hρ => by
  have hσ : σ (.func f) = .func (.func f) #[] #[] := VRep.v_iff.1 (hρ (.func f) (by simp [Op.operands, Call.operands]) _ hf0)
  have hv := hρ x (by simp [Op.operands, Call.operands]) _ hx
  unfold VRep at hv
  obtain ⟨y, fp, hy, hfp, ho⟩ := m.get hH
  rw [hv] at hy
  cases hy
  obtain ⟨⟨fn, hf, hname, hb⟩, hsome, hnone⟩ := hs
  refine .inr ⟨f, #[σ x], ?_, ?_⟩
  · simp only [execOp, resolve, hσ, Deferred.ofValue, invoke, Sem.run_bind, Sem.run_pure, Result.andThen_ok]
    simpa using run_call hf hname hb #[σ x] w
  · obtain ⟨hfe, hc⟩ := row_holds ho
    have hown : ∀ b ∈ fp, b < w.heap.size ∧ C.w0.heap.size ≤ b := fun b hb => by
      have := m.own fp (mem_of_get hfp) b hb
      rw [hC] at this
      exact ⟨this.1, this.2.resolve_left (by simp)⟩
    have hapart : ∀ b ∈ fp, ∀ q ∈ F.set i [], b ∉ q := fun b hb q hq hbq => by
      obtain ⟨j, hj⟩ := List.getElem?_of_mem hq
      rw [List.getElem?_set] at hj
      split at hj
      · split at hj
        · cases hj; simp at hbq
        · cases hj
      · rename_i hij
        exact hij (m.apart i j fp q b hfp hj hb hbq)
    rcases hc with ⟨h0, rfl⟩ | ⟨g', cap, cur, h1, h2, h3, h4, h5, h6⟩
    · rw [h0]
      refine (hnone none 0 w).mono ?_
      rintro e1 w' ⟨rfl, rfl⟩
      obtain ⟨m', e'⟩ := m.set (w' := w') i .dead fp [] (σ x) hv hfp rfl rfl rfl (Nat.le_refl _) (fun _ _ _ => rfl) (fun b hb => by simp at hb) (fun _ => rfl)
      refine ⟨_, rfl, _, _, m', e', ?_⟩
      unfold VRep
      exact ⟨by decide, none, 0, 0, rfl, rfl, Nat.le_refl _, Nat.zero_le _, fun h => absurd rfl h⟩
    · rw [h1]
      have hHo : Holds (Value.int .i64) w g' 0 xs.toArray := holds_of_blockI h2 h6
      have hg : g' < w.heap.size := (Array.getElem?_eq_some_iff.1 h2).1
      have hmx : maxLen ≤ 9223372036854775807 := by decide
      have hcl := Lib.compact_length_le xs
      refine (hsome g' 0 cap xs w hHo (by omega) h3).mono ?_
      rintro e1 w' ⟨rfl, q, hw⟩
      have hfe : fp = [g'] := by rw [hfe, h1]; rfl
      subst hfe
      have hgb := grownBy_sortedI (w := w) (g := g') (n := q) (os := #[]) (Lib.compact xs ++ List.replicate (xs.length - (Lib.compact xs).length) 0).toArray
      rw [grow_empty, ← hw] at hgb
      have hbl := heap_sortedI (w := w) (n := q) (os := #[]) (Lib.compact xs ++ List.replicate (xs.length - (Lib.compact xs).length) 0).toArray h2
      rw [grow_empty, ← hw] at hbl
      clear hw
      obtain ⟨k1, k2, k3, k4, k5⟩ := hgb
      obtain ⟨m', e'⟩ := m.set (w' := w') i .dead [g'] [] (σ x) hv hfp k1 k2 k3 k4 (fun b hb hn => k5 b hb (fun hh => hn (List.mem_singleton.2 (Option.some.inj hh)))) (fun b hb => absurd hb (by simp)) (fun _ => rfl)
      refine ⟨_, rfl, _, _, m', e', ?_⟩
      have htk : (putCells (Value.int .i64) 0 (Lib.compact xs ++ List.replicate (xs.length - (Lib.compact xs).length) 0).toArray cur).toList.take (Lib.compact xs).length = (Lib.compact xs).map (Value.int .i64) := by
        have h9 := take_putCellsI cur (Lib.compact xs ++ List.replicate (xs.length - (Lib.compact xs).length) 0) (by simp; omega)
        have h10 := congrArg (List.take (Lib.compact xs).length) h9
        rw [List.take_take, List.length_append, Nat.min_eq_left (by omega), List.map_append, List.take_left' (by simp)] at h10
        exact h10
      refine own_read (holds_row (ok := okB C w' (F.set i [])) (V := V) (xs := Lib.compact xs) hbl (by omega) h4 (by simp [putCells, h5]) htk) (frees_iv _) (fun _ h => h) fun b hb => ?_
      obtain ⟨j1, j2⟩ := hown b hb
      exact ⟨.inr j2, Nat.lt_of_lt_of_le j1 k4, hapart b hb⟩
/-- A call of slices.Compact: what is given back is only read. -/
theorem StepD.compactI (hC : C.F0 = []) {f : FuncId} (hs : CompactsI P f) {x : Operand} {ats : Array TypeId} {i : Nat} {e : TypeId} {xs : List Int} {H : List OD} (hx : evS tb.E fr x = some (.ob i)) (hH : getOD H i = some (.row e .int xs)) :
    StepD P C tb fr ⟨d, .call { callee := .value (.func f), args := #[x], argTypes := ats }, t, p, af, g⟩ H (.sl .int (Lib.compact xs)) (setOD H i .dead) := fun _ hρ => by
  rw [setOD_map]
  have h1 := getOD_map hH
  rw [show (OD.row e .int xs).ob = .row e 1 (xs.map iv) by show Ob.row e 1 (xs.flatMap (gT .int)) = _; rw [ints_cells]] at h1
  have := VStep.compactI (P := P) (C := C) (d := d) (t := t) (p := p) (af := af) (g := g) (ats := ats) hC hs (hρ.1 (.func f) _ rfl) (hρ.1 _ _ hx) h1
  rw [show (DV.sl .int (Lib.compact xs)).av = .rd 1 ((Lib.compact xs).map iv) by show AV.rd 1 ((Lib.compact xs).flatMap (gT .int)) = _; rw [ints_cells]]
  exact this
end
/-! ### What is left of a sorted list: its members, each once. -/
theorem get_bang (zs : List Int) (j : Nat) : zs.toArray[j]! = zs.getD j 0 := by
  by_cases h : j < zs.length
  · simp [List.getD, h, getElem!_pos]
  · simp [List.getD, h]
theorem mem_compact {zs : List Int} {y : Int} : y ∈ Lib.compact zs ↔ y ∈ zs := by
  unfold Lib.compact Lib.compactUpTo
  rw [List.mem_map]
  constructor
  · rintro ⟨j, hj, rfl⟩
    have hlt := List.mem_range.1 (List.mem_filter.1 hj).1
    rw [get_bang]
    simp only [List.getD, List.getElem?_eq_getElem hlt, Option.getD_some]
    exact List.getElem_mem hlt
  · intro hy
    obtain ⟨j, hj, rfl⟩ := List.getElem_of_mem hy
    induction j with
    | zero => exact ⟨0, List.mem_filter.2 ⟨List.mem_range.2 hj, by simp [Lib.keeps]⟩, by rw [get_bang]; simp [List.getD, hj]⟩
    | succ j ih =>
      by_cases hk : Lib.keeps zs.toArray (j + 1) = true
      · exact ⟨j + 1, List.mem_filter.2 ⟨List.mem_range.2 hj, hk⟩, by rw [get_bang]; simp [List.getD, hj]⟩
      · have he : zs[j + 1] = zs[j] := by
          unfold Lib.keeps at hk
          rw [decide_eq_true_eq, get_bang, get_bang] at hk
          have : zs.getD (j + 1) 0 = zs.getD j 0 := Decidable.byContradiction fun hh => hk (.inr hh)
          simpa [List.getD, hj, show j < zs.length by omega] using this
        rw [he]
        exact ih (by omega) (List.getElem_mem _)
end Go.Qw
