/-
  An abstract machine over the model's own code, part N: a program's types, checked by computation. No program is named here.
-/
import Derived.Test.YtmeacgkhabnjlaaDoorQwM
set_option linter.unusedSimpArgs false
set_option linter.unusedVariables false
set_option linter.unusedSectionVars false
namespace Go.Qw
open Go.RowKit

section
variable {P : Program}
def sizeIs (P : Program) (T : TypeId) (n : Nat) : Bool := match P.info? T with
  | some i => Nat.beq i.size n
  | none => false
theorem sizeIs_ok {T : TypeId} {n : Nat} (h : sizeIs P T n = true) : (P.info? T).map (·.size) = some n := by
  unfold sizeIs at h
  split at h
  · rename_i i hi
    rw [hi]
    exact congrArg some (Nat.eq_of_beq_eq_true h)
  · cases h
def isSlice (P : Program) (T e : TypeId) : Bool := match P.underlying T with
  | some (.slice e') => Nat.beq e' e
  | _ => false
theorem isSlice_ok {T e : TypeId} (h : isSlice P T e = true) : P.underlying T = some (.slice e) := by
  unfold isSlice at h
  split at h
  · rename_i e' he
    rw [he, Nat.eq_of_beq_eq_true h]
  · cases h
def scalC (P : Program) (T : TypeId) : Bool := match P.underlying T with
  | some (.struct _) => false
  | some (.array _ _) => false
  | some _ => true
  | none => false
theorem scalC_ok {T : TypeId} (h : scalC P T = true) : ScalT P T := by
  unfold scalC at h
  split at h
  · cases h
  · cases h
  · rename_i dd _ _ hd
    refine ⟨dd, hd, ?_⟩
    cases dd <;> first | rfl | (exfalso; simp_all)
  · cases h
def slC (P : Program) (q : TypeId × TypeId × Ty × Nat) : Bool := isSlice P q.1 q.2.1 && sizeIs P q.2.1 q.2.2.1.size && Nat.blt 0 q.2.2.1.size && match P.info? q.2.1 with
  | some i => Nat.beq i.bytes q.2.2.2 && match i.zero with
    | some z => Nat.beq z.cells.size q.2.2.1.size
    | none => false
  | none => false
theorem slC_ok {q : TypeId × TypeId × Ty × Nat} (h : slC P q = true) : SliceT P q.1 q.2.1 q.2.2.1.size ∧ AppT P q.1 q.2.1 q.2.2.1.size q.2.2.2 := by
  unfold slC at h
  simp only [Bool.and_eq_true] at h
  obtain ⟨⟨⟨h1, h2⟩, h3⟩, h4⟩ := h
  have h1 := isSlice_ok h1
  have h2 := sizeIs_ok h2
  refine ⟨⟨h1, h2⟩, h1, ?_⟩
  split at h4
  · rename_i i hi
    simp only [Bool.and_eq_true] at h4
    obtain ⟨h4, h5⟩ := h4
    split at h5
    · rename_i z hz
      rw [hi] at h2
      exact ⟨i, z, hi, hz, by simpa using h2, Nat.eq_of_beq_eq_true h4, Nat.eq_of_beq_eq_true h5, by simpa using h3⟩
    · cases h5
  · cases h4
def aggC (P : Program) (q : TypeId × Nat) : Bool := (match P.underlying q.1 with
  | some (.struct _) => true
  | some (.array _ _) => true
  | _ => false) && sizeIs P q.1 q.2
theorem aggC_ok {q : TypeId × Nat} (h : aggC P q = true) : AggT P q.1 q.2 := by
  unfold aggC at h
  simp only [Bool.and_eq_true] at h
  refine ⟨?_, sizeIs_ok h.2⟩
  have h1 := h.1
  split at h1
  · rename_i hd; exact ⟨_, hd, rfl⟩
  · rename_i hd; exact ⟨_, hd, rfl⟩
  · cases h1
def fldC (P : Program) (q : TypeId × Nat × Nat) : Bool := match P.underlying q.1 with
  | some (.struct fs) => match fs[q.2.1]? with
    | some fd => Nat.beq fd.offset q.2.2 && sizeIs P fd.type 1 && scalC P fd.type
    | none => false
  | _ => false
theorem fldC_ok {q : TypeId × Nat × Nat} (h : fldC P q = true) : FieldT P q.1 q.2.1 q.2.2 1 := by
  unfold fldC at h
  split at h
  · rename_i fs hd
    split at h
    · rename_i fd hf
      simp only [Bool.and_eq_true] at h
      exact ⟨fs, fd, hd, hf, Nat.eq_of_beq_eq_true h.1.1, sizeIs_ok h.1.2, by decide, scalC_ok h.2⟩
    · cases h
  · cases h
def arrC (P : Program) (q : TypeId × TypeId × Nat) : Bool := (match P.underlying q.1 with
  | some (.array n e) => Nat.beq n q.2.2 && Nat.beq e q.2.1
  | _ => false) && sizeIs P q.2.1 1 && scalC P q.2.1
theorem arrC_ok {q : TypeId × TypeId × Nat} (h : arrC P q = true) : ArrayT P q.1 q.2.1 q.2.2 1 ∧ ScalT P q.2.1 := by
  unfold arrC at h
  simp only [Bool.and_eq_true] at h
  obtain ⟨⟨h1, h2⟩, h3⟩ := h
  refine ⟨⟨?_, sizeIs_ok h2⟩, scalC_ok h3⟩
  split at h1
  · rename_i n e hd
    simp only [Bool.and_eq_true] at h1
    rw [hd, Nat.eq_of_beq_eq_true h1.1, Nat.eq_of_beq_eq_true h1.2]
  · cases h1
def ifcC (P : Program) (T : TypeId) : Bool := match P.underlying T with
  | some (.interface _) => true
  | _ => false
theorem ifcC_ok {T : TypeId} (h : ifcC P T = true) : ∃ ms, P.underlying T = some (.interface ms) := by
  unfold ifcC at h
  split at h
  · rename_i ms hd; exact ⟨ms, hd⟩
  · cases h
/-- The cells of a zero value, as told. -/
def sameI : List Value → List DV → Bool
  | [], [] => true
  | .int .i64 a :: us, .i b :: l => decide (a = b) && sameI us l
  | .bool a :: us, .b b :: l => (a == b) && sameI us l
  | .slice none 0 0 :: us, .nil :: l => sameI us l
  | .map none :: us, .u (.map none) :: l => sameI us l
  | _, _ => false
theorem sameI_ok : ∀ {us : List Value} {l : List DV}, sameI us l = true → DV.avs l = us.map .v
  | us, l, h => by
    unfold sameI at h
    split at h
    · rfl
    · simp only [Bool.and_eq_true, decide_eq_true_eq] at h
      obtain ⟨rfl, h⟩ := h
      rw [DV.avs, List.map_cons, sameI_ok h]; rfl
    · simp only [Bool.and_eq_true, beq_iff_eq] at h
      obtain ⟨rfl, h⟩ := h
      rw [DV.avs, List.map_cons, sameI_ok h]; rfl
    · rw [DV.avs, List.map_cons, sameI_ok h]; rfl
    · rw [DV.avs, List.map_cons, sameI_ok h]; rfl
    · cases h
def zerC (P : Program) (q : TypeId × List DV) : Bool := match P.info? q.1 with
  | some i => match i.zero with
    | some z => sameI z.cells.toList q.2
    | none => false
  | none => false
theorem zerC_ok {q : TypeId × List DV} (h : zerC P q = true) : ZeroT P q.1 (DV.avs q.2) := by
  unfold zerC at h
  split at h
  · rename_i i hi
    split at h
    · rename_i z hz
      exact ⟨i, z, hi, hz, _, rfl, sameI_ok h⟩
    · cases h
  · cases h
theorem avs_rep (n : Nat) : DV.avs (List.replicate n (.i 0)) = List.replicate n (iv 0) := by
  rw [DV.avs_map, List.map_replicate]; rfl
/-- Fields of one cell each, in a row. -/
def flds (P : Program) : Nat → List Field → Bool
  | _, [] => true
  | k, f :: r => Nat.beq f.offset k && sizeIs P f.type 1 && flds P (k + 1) r
theorem flds_ok : ∀ {k : Nat} {fs : List Field}, flds P k fs = true → fs.mapM (fun f => (P.info? f.type).map fun i => (f.offset, i.size)) = some ((List.range' k fs.length).map fun i => (i, 1))
  | k, [], _ => rfl
  | k, f :: r, h => by
    simp only [flds, Bool.and_eq_true] at h
    obtain ⟨⟨h1, h2⟩, h3⟩ := h
    have h2 := sizeIs_ok h2
    have h1 := Nat.eq_of_beq_eq_true h1
    cases hi : P.info? f.type with
    | none => rw [hi] at h2; cases h2
    | some i =>
      rw [hi] at h2
      simp only [Option.map_some, Option.some.injEq] at h2
      rw [List.mapM_cons, hi, flds_ok h3]
      simp [h2, h1, List.range'_succ]
def bldC (P : Program) (q : TypeId × Nat) : Bool := match P.underlying q.1 with
  | some (.struct fs) => Nat.beq fs.toList.length q.2 && flds P 0 fs.toList && match P.info? q.1 with
    | some i => match i.zero with
      | some z => Nat.beq z.cells.toList.length q.2
      | none => false
    | none => false
  | some (.array _ e) => (match P.info? e with
    | some ie => Nat.beq ie.size 1
    | none => false) && match P.info? q.1 with
    | some i => match i.zero with
      | some z => Nat.beq z.cells.toList.length q.2
      | none => false
    | none => false
  | _ => false
theorem isIB_cells {u : Value} (h : isIB u = true) : u.cells = #[u] := by cases u <;> first | rfl | cases h
theorem fill_run {place : Nat → Option (Nat × Nat)} {n : Nat} (hp : ∀ i, i < n → place i = some (i, 1)) : ∀ (us : List Value) (k : Nat) (cells : Array Value), cells.size = n → k + us.length = n → us.all isIB = true →
    Instr.fill place cells ((List.range' k us.length).zip us) = some (cells.toList.take k ++ us).toArray
  | [], k, cells, hc, hk, _ => by
    simp only [List.length_nil, Nat.add_zero] at hk
    have : cells.toList.take k = cells.toList := List.take_of_length_le (by simp [hc, hk])
    simp [Instr.fill, this]
  | u :: us, k, cells, hc, hk, hu => by
    simp only [List.all_cons, Bool.and_eq_true, List.length_cons] at hu hk
    rw [List.length_cons, List.range'_succ, List.zip_cons_cons]
    unfold Instr.fill
    rw [hp k (by omega)]
    simp only [isIB_cells hu.1]
    rw [if_neg (by simp; omega)]
    have := fill_run hp us (k + 1) (cells.setIfInBounds k u) (by simp [hc]) (by omega) hu.2
    have hz : (#[u].zipIdx.foldl (fun cs (x : Value × Nat) => cs.setIfInBounds (k + x.2) x.1) cells) = cells.setIfInBounds k u := by simp
    rw [hz, this]
    have hlt : k < cells.toList.length := by simp; omega
    simp only [Array.toList_setIfInBounds, List.take_set]
    rw [List.take_succ_eq_append_getElem hlt]
    simp [Nat.min_eq_left (Nat.le_of_lt (by simpa using hlt))]
theorem bldC_ok {q : TypeId × Nat} (h : bldC P q = true) : BuildT P q.1 q.2 := by
  unfold bldC at h
  split at h
  · rename_i fs hd
    simp only [Bool.and_eq_true] at h
    obtain ⟨⟨h1, h2⟩, h3⟩ := h
    have h1 := Nat.eq_of_beq_eq_true h1
    split at h3
    · rename_i i hi
      split at h3
      · rename_i z hz
        have h3 := Nat.eq_of_beq_eq_true h3
        intro us hus hib
        unfold Program.built
        rw [hi, hd]
        simp only [hz, flds_ok h2]
        have hp : ∀ j, j < q.2 → (((List.range' 0 fs.toList.length).map fun i => (i, 1)).toArray[j]? : Option (Nat × Nat)) = some (j, 1) := fun j hj => by
          rw [List.getElem?_toArray, List.getElem?_map, List.getElem?_range' (by omega)]
          simp
        have := fill_run hp us 0 z.cells (by simpa using h3) (by omega) hib
        rw [hus] at this
        rw [List.range_eq_range']
        rw [List.take_zero, List.nil_append] at this
        exact this
      · cases h3
    · cases h3
  · rename_i m e hd
    simp only [Bool.and_eq_true] at h
    obtain ⟨h2, h3⟩ := h
    split at h2
    · rename_i ie hie
      have h2 := Nat.eq_of_beq_eq_true h2
      split at h3
      · rename_i i hi
        split at h3
        · rename_i z hz
          have h3 := Nat.eq_of_beq_eq_true h3
          intro us hus hib
          unfold Program.built
          rw [hi, hd]
          simp only [hz, hie, h2]
          have := fill_run (place := fun i => some (i * 1, 1)) (n := q.2) (fun i _ => by simp) us 0 z.cells (by simpa using h3) (by omega) hib
          rw [hus] at this
          rw [List.range_eq_range']
          rw [List.take_zero, List.nil_append] at this
          exact this
        · cases h3
      · cases h3
    · cases h2
  · cases h
def madeC (P : Program) (q : TypeId × TypeId × Value) : Bool := match P.info? q.2.1 with
  | some i => match i.zero, q.2.2 with
    | some (.int .i64 0), .int .i64 0 => true
    | some (.bool false), .bool false => true
    | some (.slice none 0 0), .slice none 0 0 => true
    | _, _ => false
  | none => false
theorem madeC_ok {q : TypeId × TypeId × Value} (h : madeC P q = true) : (P.info? q.2.1).bind (·.zero) = some q.2.2 := by
  unfold madeC at h
  split at h
  · rename_i i hi
    split at h
    · rename_i h1 h2; rw [hi, h2]; exact h1
    · rename_i h1 h2; rw [hi, h2]; exact h1
    · rename_i h1 h2; rw [hi, h2]; exact h1
    · cases h
  · cases h
def boolC (P : Program) (T : TypeId) : Bool := match P.underlying T with
  | some .bool => true
  | _ => false
theorem boolC_ok {T : TypeId} (h : boolC P T = true) : P.underlying T = some .bool := by
  unfold boolC at h
  split at h
  · rename_i hd; exact hd
  · cases h

def isZ0 : Value → Bool
  | .int .i64 0 => true
  | _ => false
theorem isZ0_eq {u : Value} (h : isZ0 u = true) : u = .int .i64 0 := by
  unfold isZ0 at h
  split at h
  · rfl
  · cases h
def bzC (P : Program) (q : TypeId × Nat) : Bool := match P.built q.1 [] with
  | some us => Nat.beq us.toList.length q.2 && us.toList.all isZ0
  | none => false
theorem bzC_ok {q : TypeId × Nat} (h : bzC P q = true) : P.built q.1 [] = some (List.replicate q.2 (Value.int .i64 0)).toArray := by
  unfold bzC at h
  split at h
  · rename_i us hu
    simp only [Bool.and_eq_true, List.all_eq_true] at h
    rw [hu, ← Array.toArray_toList (xs := us)]
    congr 2
    rw [← Nat.eq_of_beq_eq_true h.1]
    exact List.eq_replicate_iff.2 ⟨rfl, fun u hu => isZ0_eq (h.2 u hu)⟩
  · cases h

def tabC (P : Program) (tb : Tab) : Bool := P.concrete tb.E && tb.sl.all (slC P) && tb.scal.all (fun T => scalC P T && sizeIs P T 1) && tb.agg.all (aggC P) && tb.fld.all (fldC P) && tb.arr.all (arrC P) && tb.ifc.all (ifcC P) && tb.zer.all (zerC P) &&
  tb.zar.all (fun q => zerC P (q.1, List.replicate q.2 (.i 0))) && tb.bld.all (bldC P) && tb.made.all (madeC P) && boolC P tb.bool && P.follows .mixedOrders && tb.cmp.all (cmpC P) && tb.bz.all (bzC P)
theorem tabC_ok {tb : Tab} (h : tabC P tb = true) : TabOK P tb := by
  simp only [tabC, Bool.and_eq_true, List.all_eq_true] at h
  obtain ⟨⟨⟨⟨⟨⟨⟨⟨⟨⟨⟨⟨⟨⟨h1, h2⟩, h3⟩, h4⟩, h5⟩, h6⟩, h7⟩, h8⟩, h9⟩, h10⟩, h11⟩, h12⟩, h13⟩, h14⟩, h15⟩ := h
  exact ⟨h1, fun q hq => slC_ok (h2 q hq), fun t ht => ⟨scalC_ok (h3 t ht).1, sizeIs_ok (h3 t ht).2⟩, fun q hq => aggC_ok (h4 q hq), fun q hq => fldC_ok (h5 q hq), fun q hq => arrC_ok (h6 q hq), fun t ht => ifcC_ok (h7 t ht), fun q hq => zerC_ok (h8 q hq),
    fun q hq => by rw [← avs_rep]; exact zerC_ok (h9 q hq), fun q hq => bldC_ok (h10 q hq), fun q hq => madeC_ok (h11 q hq), boolC_ok h12, fun q hq => cmpC_ok (h14 q hq), h13, fun q hq => bzC_ok (h15 q hq)⟩
/-- The same table, with literals that are to be the call's own. -/
theorem TabOK.own {tb : Tab} (ok : TabOK P tb) (l : List Nat) : TabOK P { tb with own := l } := ⟨ok.errno, ok.sl, ok.scal, ok.agg, ok.fld, ok.arr, ok.ifc, ok.zer, ok.zar, ok.bld, ok.made, ok.bool, ok.cmp, ok.mixed, ok.bz⟩
end
end Go.Qw
