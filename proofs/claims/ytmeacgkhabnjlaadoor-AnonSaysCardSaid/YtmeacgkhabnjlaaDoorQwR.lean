/-
  An abstract machine over the model's own code, part R: what a row's arguments read as; a row's last step where the law answers true. No program is named here.
-/
import Derived.Test.YtmeacgkhabnjlaaDoorQwO
import Derived.Below
import Derived.Carry
import Derived.ChangeSame
import Derived.JoinedOf
import Derived.JoinedAt
import Derived.RowKit3
import Derived.ReadAgain
import Derived.RowKit2
import Derived.ChangeSlices
import Derived.Deep.Matrix
set_option linter.unusedSimpArgs false
set_option linter.unusedVariables false
set_option linter.unusedSectionVars false
namespace Go.Qw
open Go.RowKit Go.ChangeShapes Go.WideShapes Go.ChangeAt Go.Deep

def okR (W : World) : Nat → Prop := okB ⟨W, fun b => b < W.heap.size, [], [], 0⟩ W []
theorem okR_of {W : World} {b : Nat} (h : b < W.heap.size) : okR W b := ⟨.inl h, h, by simp⟩
theorem cell_lt {W : World} {a : Addr} {u : Value} (h : W.cell? a = some u) : a.block < W.heap.size := by
  unfold World.cell? at h
  split at h
  · rename_i hb; exact (Array.getElem?_eq_some_iff.1 hb).1
  · cases h

theorem VReps_map {α : Type} {ok : Nat → Prop} {w : World} {V : List Value} {f : α → AV} {g : α → Value} : ∀ {l : List α}, (∀ x ∈ l, VRep ok w V (f x) (g x)) → VReps ok w V (l.map f) (l.map g)
  | [], _ => by unfold List.map VReps; rfl
  | x :: l, h => by
    unfold List.map VReps
    exact ⟨g x, l.map g, rfl, h x (by simp), VReps_map fun y hy => h y (by simp [hy])⟩

section
variable {H : Type} {enc : TypeId × Value → H} {P : Program} {W : World}

theorem flat_ints (xs : List Int) : xs.flatMap (gT .int) = xs.map iv := by
  induction xs with
  | nil => rfl
  | cons x r ih => rw [List.flatMap_cons, ih]; rfl
theorem flat_sls {τ : Ty} (xs : List (List τ.T)) : xs.flatMap (gT (.sl τ)) = xs.map fun ys => AV.rd τ.size ((ys : List τ.T).flatMap (gT τ)) := by
  induction xs with
  | nil => rfl
  | cons x r ih => rw [List.flatMap_cons, ih]; rfl

/-- A row of ints in the world reads as its ints. -/
theorem rep_row {A : Option Addr} {L C : Nat} {Z : List Int} (hL : L ≤ C) (hC : C ≤ maxLen) (hZ : Z.length = C) (hn : A = none → C = 0) (hcell : ∀ a', A = some a' → ∀ c, c < C → W.cell? (a'.add c) = some (.int .i64 (Z.getD c 0))) :
    VRep (okR W) W [] (DV.sl .int (Z.take L)).av (.slice A L C) := by
  have e : (DV.sl .int (Z.take L)).av = .rd 1 ((Z.take L).map iv) := congrArg (AV.rd 1) (flat_ints (Z.take L))
  rw [e]
  unfold VRep
  refine ⟨by decide, A, L, C, rfl, by simp; omega, hL, hC, fun hne => ?_⟩
  have hLpos : 0 < L := by
    rcases Nat.eq_zero_or_pos L with h | h
    · subst h; exact absurd rfl hne
    · exact h
  cases A with
  | none => have := hn rfl; omega
  | some ad =>
    have hc0 := hcell ad rfl 0 (by omega)
    refine ⟨ad, (Z.take L).map (.int .i64), rfl, okR_of ?_, fun j u hu => ?_, VReps_map fun x _ => VRep.v_iff.2 rfl⟩
    · have := cell_lt hc0
      rwa [add_block] at this
    · rw [List.getElem?_map] at hu
      cases hj : (Z.take L)[j]? with
      | none => rw [hj] at hu; cases hu
      | some z =>
        rw [hj] at hu
        cases hu
        have hlt := (List.getElem?_eq_some_iff.1 hj).1
        rw [List.length_take] at hlt
        rw [List.getElem?_take, if_pos (by omega)] at hj
        rw [hcell ad rfl j (by omega)]
        simp [List.getD, hj]

/-- What the rows of a claim's wide ints are. -/
def inI (n : Int) : Prop := -9223372036854775808 ≤ n ∧ n ≤ 9223372036854775807
theorem inI_of {n : Int} (h : (Lit.int .i64 n).wf = true) : inI n := by
  have h1 : IntKind.i64.min = -9223372036854775808 := rfl
  have h2 : IntKind.i64.max = 9223372036854775807 := rfl
  simp only [Lit.wf, Bool.and_eq_true, decide_eq_true_eq] at h
  unfold inI
  omega

theorem rep_int {b0 : Nat} {t : TypeId} {v : Value} {d : DataW H} {ps : List MemPlace} (ht : P.underlying t = some (.int .i64)) (hval : Value.okWide P W .any b0 t v) (h : DataW.Trod enc P W 0 (fun _ => true) true t v d ps) :
    ∃ n : Int, VRep (okR W) W [] (DV.i n).av v ∧ inI n := by
  obtain ⟨n, rfl, rfl, rfl, wf⟩ := open_int ht hval h
  exact ⟨n, VRep.v_iff.2 rfl, inI_of wf⟩
theorem rep_ints {b0 : Nat} {t e : TypeId} {v : Value} {d : DataW H} {ps : List MemPlace} (ht : P.underlying t = some (.slice e)) (he : P.underlying e = some (.int .i64)) (hc : P.cellsOf e = 1) (hval : Value.okWide P W .any b0 t v)
    (h : DataW.Trod enc P W 0 (fun _ => true) true t v d ps) : ∃ xs : List Int, VRep (okR W) W [] (DV.sl .int xs).av v ∧ ∀ x ∈ xs, inI x := by
  obtain ⟨a0, len, cap, rfl⟩ := okWide_slice ht hval
  obtain ⟨fuel, hf⟩ := h
  rcases open_ints ht he hc hf with ⟨hcs, _⟩ | ⟨a, len', cap', zs, hcs, _, hl, hm, hz, _, hcell, hwz⟩
  · simp [Value.cells] at hcs
    obtain ⟨rfl, rfl, rfl⟩ := hcs
    exact ⟨[], rep_row (Z := []) (Nat.le_refl _) (Nat.zero_le _) rfl (fun _ => rfl) (fun a' h => by cases h), by simp⟩
  · simp [Value.cells] at hcs
    obtain ⟨rfl, rfl, rfl⟩ := hcs
    simp only [if_true] at hz
    exact ⟨zs.take len, rep_row hl hm hz (fun h => by cases h) (fun a' h c hc => by cases h; exact hcell c (by omega)), fun x hx => inI_of (hwz x (List.mem_of_mem_take hx))⟩
theorem rep_rows {b0 : Nat} {t e q : TypeId} {v : Value} {d : DataW H} {ps : List MemPlace} (ht : P.underlying t = some (.slice e)) (he : P.underlying e = some (.slice q)) (hq : P.underlying q = some (.int .i64)) (ce : P.cellsOf e = 1) (cq : P.cellsOf q = 1) (hval : Value.okWide P W .any b0 t v)
    (h : DataW.Trod enc P W 0 (fun _ => true) true t v d ps) : ∃ xs : List (List Int), VRep (okR W) W [] (DV.sl (.sl .int) xs).av v ∧ ∀ r ∈ xs, ∀ x ∈ r, inI x := by
  obtain ⟨a0, len, cap, rfl⟩ := okWide_slice ht hval
  obtain ⟨fuel, hf⟩ := h
  rcases open_int_rows ht he hq ce cq hf with ⟨hcs, _⟩ | ⟨a, len', cap', A, L, C, Z, hcs, _, hl, hm, _, hrow⟩
  · simp [Value.cells] at hcs
    obtain ⟨rfl, rfl, rfl⟩ := hcs
    refine ⟨[], ?_, by simp⟩
    simp only [DV.av]
    unfold VRep
    exact ⟨by decide, none, 0, 0, rfl, rfl, Nat.le_refl _, Nat.zero_le _, fun hne => absurd rfl hne⟩
  · simp [Value.cells] at hcs
    obtain ⟨rfl, rfl, rfl⟩ := hcs
    refine ⟨(List.range len).map fun r => (Z r).take (L r), ?_, fun r hr x hx => ?_⟩
    · have e : (DV.sl (.sl .int) ((List.range len).map fun r => (Z r).take (L r))).av = .rd 1 ((List.range len).map fun r => (DV.sl .int ((Z r).take (L r))).av) :=
        congrArg (AV.rd 1) ((flat_sls (τ := .int) ((List.range len).map fun r => (Z r).take (L r))).trans (List.map_map ..))
      rw [e]
      unfold VRep
      refine ⟨by decide, some a, len, cap, rfl, by simp, hl, hm, fun hne => ?_⟩
      have hpos : 0 < len := by
        rcases Nat.eq_zero_or_pos len with h | h
        · subst h; exact absurd rfl hne
        · exact h
      refine ⟨a, (List.range len).map fun r => .slice (A r) (L r) (C r), rfl, okR_of ?_, fun j u hu => ?_, VReps_map fun r hr => ?_⟩
      · have := cell_lt (hrow 0 (by omega)).1
        rwa [add_block] at this
      · rw [List.getElem?_map] at hu
        by_cases hj : j < len
        · rw [List.getElem?_range hj] at hu
          cases hu
          exact (hrow j (by omega)).1
        · rw [List.getElem?_eq_none (by simp; omega)] at hu
          cases hu
      · have hr' := List.mem_range.1 hr
        obtain ⟨_, h1, h2, h3, _, h5, h6⟩ := hrow r (by omega)
        exact rep_row h1 h2 h3 h5 fun a' ha' c hc => (h6 a' ha').2 c hc
    · obtain ⟨r', hr', rfl⟩ := List.mem_map.1 hr
      have hr2 := List.mem_range.1 hr'
      exact inI_of ((hrow r' (by omega)).2.2.2.2.1 x (List.mem_of_mem_take hx))

/-- A LAW THAT ANSWERS TRUE, called. -/
theorem LiftsD.calls_true {f : FuncId} {as : List DV} {args : Array Value} (h : LiftsD P f as (.b true)) (hv : VReps (okR W) W [] (DV.avs as) args.toList) : Calls P f args W fun e W' => e = .returned (.bool true) ∧ Below W.heap.size W W' := by
  refine (h.2 W (fun b => b < W.heap.size) [] [] args (Mem.start W _ 0) hv).mono fun e W' ⟨u, he, V', F', m, _, hu⟩ => ?_
  have hu := VRep.v_iff.1 hu
  subst hu
  exact ⟨he, m.os, m.tape, m.output, m.size, fun k hk => m.kept k hk (by simp)⟩

theorem trodAll_below (hl : laidOutB P = true) {W' : World} {sp : Nat → Bool} (hb : Below W.heap.size W W') : ∀ {ts : List TypeId} {vs : List Value} {ds : List (DataW H)} {ps : List MemPlace}, (∀ t ∈ ts, P.readableRec t = true ∧ t < P.types.size) →
    DataW.TrodAll enc P W 0 (fun _ => true) true ts vs ds ps → (∀ x ∈ ps, x.block < W.heap.size) → (∀ x ∈ ps, sp x.block = true) → DataW.TrodAll enc P W' 0 sp true ts vs ds ps
  | [], vs, ds, ps, _, h, _, _ => by
    obtain ⟨rfl, rfl, rfl⟩ := trodAll_nil h
    exact trodAll_mk0
  | t :: ts, vs, ds, ps, hts, h, hlt, hsp => by
    obtain ⟨v, vs1, d, ds1, a, b, rfl, rfl, rfl, h1, h2⟩ := trodAll_cons h
    exact ⟨a, b, WideElems.Trod_stays hl (hts t (by simp)).1 (hts t (by simp)).2 h1 (fun x hx => hb.same (hlt x (by simp [hx]))) (fun x hx => hsp x (by simp [hx])),
      trodAll_below hl hb (fun t' ht' => hts t' (by simp [ht'])) h2 (fun x hx => hlt x (by simp [hx])) (fun x hx => hsp x (by simp [hx])), rfl⟩

/-- THE ROW's LAST STEP: true is given back; what was handed in reads as it did. -/
theorem post_true {f : Func} {s : ChangeSpec} {apart fresh handsOn again : Bool} {W' : World} {args : Array Value} {ds gs : List (DataW H)} {before : List MemPlace} {tb : TypeId} (hl : laidOutB P = true) (hrt : f.resultTypes = #[tb]) (htb : P.underlying tb = some .bool)
    (hts : ∀ t ∈ f.params.toList, P.readableRec t = true ∧ t < P.types.size) (hvars : s.vars = []) (hres : (s.fn H (ds ++ gs)).results = [.lit (.bool true)]) (hargs : (s.fn H (ds ++ gs)).args = ds) (hvr : (s.fn H (ds ++ gs)).vars = [])
    (hW : DataW.Whole enc P f.params.toList s.vars apart W args.toList ds gs before) (hb : Below W.heap.size W W') : s.post enc P f apart fresh handsOn again W args (.bool true) W' := by
  have hW0 := hW
  have hlt : ∀ p ∈ before, p.block < W.heap.size := fun p hp => hW.lt p hp
  have hold : ∀ p ∈ before, (fun b => decide (b < W.heap.size)) p.block = true := fun p hp => by simpa using hlt p hp
  obtain ⟨p, q, hA, hV, hpq, hz, hn⟩ := hW
  rw [hvars] at hV
  obtain ⟨hgs, hq⟩ := trodVars_none hV
  subst hgs hq hpq
  simp only [List.append_nil] at *
  have hin : ∀ sp : Nat → Bool, (∀ x ∈ p, sp x.block = true) → DataW.TrodAll enc P W' 0 sp true f.params.toList args.toList (s.fn H ds).args p := fun sp hsp => by
    rw [hargs]; exact trodAll_below hl hb hts hA hlt hsp
  have hout : ∀ (b : Nat) (sp : Nat → Bool) (hd : Bool), DataW.TrodAll enc P W' b sp hd f.resultTypes.toList ((Value.bool true).resultList f.resultTypes.size) (s.fn H ds).results [] := fun b sp hd => by
    rw [hres, hrt]; exact trodAll_mk1 (shut_bool htb true)
  have hvs : ∀ sp : Nat → Bool, DataW.TrodVars enc P W' sp s.vars (s.fn H ds).vars [] := fun sp => by
    rw [hvars, hvr]; rfl
  refine ⟨ds, [], p, [], p, [], by simpa using hW0, by simpa using hout _ _ _, by simpa using hin _ hold, by simpa using hvs _, World.keptBut_mono (fun x hx => ⟨hx, .inr (by simpa using hx)⟩) (hb.frame (· ∈ p)), fun _ => ?_⟩
  refine ⟨ok_one hrt rfl (okWide_bool_mk htb true), _, _, ([] ++ p) ++ [], ⟨[] ++ p, [], trodAll_append (by simpa using hin _ (fun _ _ => rfl)) (by simpa using hout _ _ _), by simpa using hvs _, rfl, ?_, ?_⟩, ?_⟩
  · intro b off hp
    have hm : MemPlace.cell b off ∈ p := by simpa using hp
    rw [hb.frozen (hlt _ hm)]
    exact hz b off hm
  · intro ha
    simpa using hn ha
  · intro x hx _
    simpa using hx
end
end Go.Qw
