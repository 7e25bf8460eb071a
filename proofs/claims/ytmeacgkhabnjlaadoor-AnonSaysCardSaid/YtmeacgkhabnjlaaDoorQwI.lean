/-
  An abstract machine over the model's own code, part I: the function that says what one operation gives, and that it says so truly. No program is named here.
-/
import Derived.Test.YtmeacgkhabnjlaaDoorQwH
set_option linter.unusedSimpArgs false
set_option linter.unusedVariables false
set_option linter.unusedSectionVars false
namespace Go.Qw
open Go.RowKit

def dT : (τ : Ty) → τ.T
  | .int => (0 : Int)
  | .bool => false
  | .two => ((0, 0) : Int × Int)
  | .tup _ => ([] : List Int)
  | .sl τ => ([] : List τ.T)
  | .val => (undef : Value)
/-- A cell of an element of a slice; an element as a value. -/
def cAt : (τ : Ty) → List τ.T → Nat → Nat → Option DV
  | .int, xs, k, 0 => some (.i (List.getD (α := Int) xs k 0))
  | .bool, xs, k, 0 => some (.b (List.getD (α := Bool) xs k false))
  | .two, xs, k, 0 => some (.i (List.getD (α := Int × Int) xs k (0, 0)).1)
  | .two, xs, k, 1 => some (.i (List.getD (α := Int × Int) xs k (0, 0)).2)
  | .tup n, xs, k, j => bif Nat.blt j n then some (.i (List.getD (α := Int) (List.getD (α := List Int) xs k []) j 0)) else none
  | .sl τ, xs, k, 0 => some (.sl τ (List.getD (α := List τ.T) xs k []))
  | .val, xs, k, 0 => some (.u (hdV (List.getD (α := Value) xs k undef)))
  | _, _, _, _ => none
def eAt : (τ : Ty) → List τ.T → Nat → Option DV
  | .two, xs, k => some (.agg [.i (List.getD (α := Int × Int) xs k (0, 0)).1, .i (List.getD (α := Int × Int) xs k (0, 0)).2])
  | .tup n, xs, k => some (.agg ((List.range n).map fun j => .i (List.getD (α := Int) (List.getD (α := List Int) xs k []) j 0)))
  | _, _, _ => none
theorem cAt_eq (τ : Ty) (xs : List τ.T) (k j : Nat) : cAt τ xs k j = cT τ (List.getD xs k (dT τ)) j := by
  cases τ with
  | int => cases j <;> rfl
  | bool => cases j <;> rfl
  | two =>
    match j with
    | 0 => rfl
    | 1 => rfl
    | j + 2 => rfl
  | tup n => rfl
  | sl τ => cases j <;> rfl
  | val => cases j <;> rfl
theorem eAt_eq {τ : Ty} {xs : List τ.T} {k : Nat} {d : DV} (h : eAt τ xs k = some d) : d = elT τ (List.getD xs k (dT τ)) ∧ d.av = .agg (gT τ (List.getD xs k (dT τ))) := by
  cases τ with
  | int => cases h
  | bool => cases h
  | two => simp only [eAt, Option.some.injEq] at h; subst h; exact ⟨rfl, rfl⟩
  | tup n =>
    simp only [eAt, Option.some.injEq] at h
    subst h
    refine ⟨rfl, ?_⟩
    simp only [DV.av, gT]
    rw [DV.avs_map, List.map_map]
    rfl
  | sl τ => cases h
  | val => cases h
theorem getD_get {α : Type} {xs : List α} {k : Nat} (h : k < xs.length) (z : α) : List.getD xs k z = xs[k] := by simp [List.getD, h]

/-- A cell of an element, turned. -/
def sT : (τ : Ty) → List τ.T → Nat → Nat → DV → Option τ.T
  | .int, _, _, 0, .i n => some n
  | .bool, _, _, 0, .b b => some b
  | .two, xs, k, 0, .i n => some (n, (List.getD (α := Int × Int) xs k (0, 0)).2)
  | .two, xs, k, 1, .i n => some ((List.getD (α := Int × Int) xs k (0, 0)).1, n)
  | .sl τ, _, _, 0, .sl τ' ys => if h : τ' = τ then some (h ▸ ys) else none
  | _, _, _, _, _ => none
theorem sT_spec {τ : Ty} {xs : List τ.T} {k j : Nat} {a : DV} {q : τ.T} (h : sT τ xs k j a = some q) : gT τ q = (gT τ (List.getD xs k (dT τ))).set j a.av ∧ j < τ.size ∧ a.av.cell1 = true := by
  unfold sT at h
  split at h
  · cases h; exact ⟨rfl, by decide, rfl⟩
  · cases h; exact ⟨rfl, by decide, rfl⟩
  · cases h; exact ⟨rfl, by decide, rfl⟩
  · cases h; exact ⟨rfl, by decide, rfl⟩
  · split at h
    · rename_i he
      subst he
      cases h
      exact ⟨rfl, by simp [Ty.size], rfl⟩
    · cases h
  · cases h

def getL : List DV → Nat → Option DV
  | [], _ => none
  | a :: _, 0 => some a
  | _ :: r, n + 1 => getL r n
theorem getL_eq : ∀ (l : List DV) (n : Nat), getL l n = l[n]?
  | [], _ => rfl
  | _ :: _, 0 => rfl
  | _ :: r, n + 1 => by simp [getL, getL_eq r n]
def isCell : DV → Bool
  | .ob _ => true
  | .i _ => true
  | .b _ => true
  | .sl _ _ => true
  | .nil => true
  | _ => false
theorem isCell_av {d : DV} (h : isCell d = true) : d.av.cell1 = true := by cases d <;> first | rfl | cases h
def allCell : List DV → Bool
  | [] => true
  | d :: l => isCell d && allCell l
/-- An array of ints by value, its members. -/
def intsD : List Int → List DV
  | [] => []
  | a :: r => .i a :: intsD r
def toIs : List DV → Option (List Int)
  | [] => some []
  | .i a :: l => match toIs l with
    | some r => some (a :: r)
    | none => none
  | _ => none
def toTs (τ : Ty) : List DV → Option (List τ.T)
  | [] => some []
  | d :: l => match toT τ d with
    | some x => match toTs τ l with
      | some r => some (x :: r)
      | none => none
    | none => none
def evsD (ρ : Operand → Option DV) : List Operand → Option (List DV)
  | [] => some []
  | x :: r => match ρ x with
    | some a => match evsD ρ r with
      | some l => some (a :: l)
      | none => none
    | none => none
/-- The indices of a literal's parts are 0, 1, .. -/
def idxOK : Nat → List (Nat × Operand) → Bool
  | _, [] => true
  | k, (j, _) :: r => Nat.beq k j && idxOK (k + 1) r
def lenL : List DV → Nat
  | [] => 0
  | _ :: r => lenL r + 1

def lenF (tb : Tab) (ρ : Operand → Option DV) (H : List OD) (x : Operand) (T : TypeId) : Option Res :=
  match findT tb.sl T with
  | some _ => match ρ x with
    | some (.sl _ xs) => some (.i (xs.length : Int), H, none, false)
    | some .nil => some (.i 0, H, none, false)
    | some (.ob k) => match getOD H k with
      | some (.row _ _ xs) => some (.i (xs.length : Int), H, none, false)
      | _ => none
    | _ => none
  | none => none
def castL {τ τ' : Ty} (h : τ' = τ) (xs : List τ'.T) : List τ.T := h ▸ xs
def appF (tb : Tab) (ρ : Operand → Option DV) (H : List OD) (s x : Operand) (T : TypeId) : Option Res :=
  match findT tb.sl T with
  | some (e, τ, bytes) => match ρ x with
    | some (.sl τ' ys) => if h : τ' = τ then match ρ s with
        | some .nil => some (.ob (lenOD H), H ++ [.row e τ (castL h ys)], some (ys.length * bytes ≤ 140737488355328 ∧ ys.length * τ.size ≤ 9223372036854775807), true)
        | some (.ob k) => match getOD H k with
          | some (.row e' τ'' xs) => if h2 : τ'' = τ then bif Nat.beq e' e then some (.ob (lenOD H), setOD H k .dead ++ [.row e τ (castL h2 xs ++ castL h ys)], some ((xs.length + ys.length) * bytes ≤ 140737488355328 ∧ (xs.length + ys.length) * τ.size ≤ 9223372036854775807), true) else none else none
          | _ => none
        | _ => none
      else none
    | _ => none
  | none => none
def loadF (tb : Tab) (H : List OD) (T : TypeId) (a : DV) : Option (DV × Option Prop) :=
  bif hasT tb.scal T then match a with
    | .fl τ xs k j => match cAt τ xs k j with
      | some d => some (d, some (k < xs.length))
      | none => none
    | .bp l c => match getL l c with
      | some d => some (d, none)
      | none => none
    | .of n τ k j => match getOD H n with
      | some (.row _ τ' xs) => if h : τ' = τ then match cAt τ (castL h xs) k j with
          | some d => some (d, some (k < xs.length))
          | none => none
        else none
      | some (.arr _ τ' xs) => if h : τ' = τ then match cAt τ (castL h xs) k j with
          | some d => some (d, some (k < xs.length))
          | none => none
        else none
      | _ => none
    | .op n c => match getOD H n with
      | some (.box _ l) => match getL l c with
        | some d => some (d, none)
        | none => none
      | _ => none
    | _ => none
  else match findT tb.agg T with
    | some sz => match a with
      | .fl τ xs k 0 => bif Nat.beq τ.size sz then match eAt τ xs k with
          | some d => some (d, some (k < xs.length))
          | none => none
        else none
      | .bp l 0 => bif Nat.beq (lenL l) sz then some (.agg l, none) else none
      | .of n τ k 0 => match getOD H n with
        | some (.row _ τ' xs) => if h : τ' = τ then bif Nat.beq τ.size sz then match eAt τ (castL h xs) k with
            | some d => some (d, some (k < xs.length))
            | none => none
          else none else none
        | _ => none
      | .op n 0 => match getOD H n with
        | some (.box _ l) => bif Nat.beq (lenL l) sz then some (.agg l, none) else none
        | some (.arr _ .int xs) => some (.agg (intsD xs), some (xs.length = sz))
        | _ => none
      | _ => none
    | none => none
def allFlat : List DV → Bool
  | [] => true
  | .i _ :: l => allFlat l
  | .b _ :: l => allFlat l
  | .sl _ _ :: l => allFlat l
  | .nil :: l => allFlat l
  | _ => false
def storeF (tb : Tab) (H : List OD) (T : TypeId) (a v : DV) : Option (List OD × Option Prop) :=
  bif hasT tb.scal T then match a with
    | .of n τ k j => match getOD H n with
      | some (.row e τ' xs) => if h : τ' = τ then match sT τ (castL h xs) k j v with
          | some q => some (setOD H n (.row e τ (List.set (castL h xs) k q)), some (k < xs.length))
          | none => none
        else none
      | some (.arr t τ' xs) => if h : τ' = τ then match sT τ (castL h xs) k j v with
          | some q => some (setOD H n (.arr t τ (List.set (castL h xs) k q)), some (k < xs.length))
          | none => none
        else none
      | _ => none
    | .op n c => match getOD H n with
      | some (.box t l) => bif isCell v && Nat.blt c (lenL l) then some (setOD H n (.box t (List.set l c v)), none) else none
      | _ => none
    | _ => none
  else match findT tb.agg T with
    | some sz => match a, v with
      | .op n 0, .agg l => match getOD H n with
        | some (.box t l') => bif Nat.beq (lenL l) sz && Nat.beq (lenL l') sz && allCell l then some (setOD H n (.box t l), none) else none
        | some (.arr t .int xs) => match toIs l with
          | some ys => bif Nat.beq (lenL l) sz then some (setOD H n (.arr t .int ys), some (xs.length = sz)) else none
          | none => none
        | _ => none
      | _, _ => none
    | none => none
def addrF (tb : Tab) (H : List OD) (T : TypeId) (a : DV) (n : Int) : Option (DV × Option Prop) :=
  match a with
  | .sl τ xs => match findT tb.sl T with
    | some (_, τ', _) => bif Nat.beq τ'.size τ.size then some (.fl τ xs n.toNat 0, some (0 ≤ n ∧ n < xs.length)) else none
    | none => none
  | .ob m => match findT tb.sl T with
    | some (_, τ', _) => match getOD H m with
      | some (.row _ τ xs) => bif Nat.beq τ'.size τ.size then some (.of m τ n.toNat 0, some (0 ≤ n ∧ n < xs.length)) else none
      | _ => none
    | none => none
  | .fl τ xs k 0 => match findT tb.arr T with
    | some (_, sz) => some (.fl τ xs k n.toNat, some (0 ≤ n ∧ n < sz))
    | none => none
  | .op m 0 => match findT tb.arr T with
    | some (_, sz) => match getOD H m with
      | some (.arr _ τ _) => bif Nat.beq τ.size 1 then some (.of m τ n.toNat 0, some (0 ≤ n ∧ n < sz)) else none
      | _ => none
    | none => none
  | _ => none
def sliceF (tb : Tab) (T : TypeId) (a : DV) (lo hi : Option DV) : Option (DV × Option Prop) :=
  match a with
  | .sl τ xs => match findT tb.sl T with
    | some (_, τ', _) => bif Nat.beq τ'.size τ.size then match lo, hi with
      | some (.i l), some (.i h) => some (.sl τ ((xs.take h.toNat).drop l.toNat), some (0 ≤ l ∧ l ≤ h ∧ h ≤ xs.length))
      | some (.i l), none => some (.sl τ (xs.drop l.toNat), some (0 ≤ l ∧ l ≤ xs.length))
      | none, some (.i h) => some (.sl τ (xs.take h.toNat), some (0 ≤ h ∧ h ≤ xs.length))
      | _, _ => none
      else none
    | none => none
  | .fl .int xs 0 0 => match findT tb.arr T with
    | some (_, n) => match lo, hi with
      | none, some (.i h) => some (.sl .int (xs.take h.toNat), some (0 ≤ h ∧ h ≤ n ∧ xs.length = n ∧ n ≤ 1000000))
      | _, _ => none
    | none => none
  | _ => none
def zT : (τ : Ty) → Value → Option τ.T
  | .int, .int .i64 0 => some (0 : Int)
  | .bool, .bool false => some false
  | _, _ => none

/-- WHAT ONE OPERATION GIVES. -/
def opF (tb : Tab) (ρ : Operand → Option DV) (H : List OD) : Op → Option Res
  | .move x => match ρ x with
    | some a => some (a, H, none, false)
    | none => none
  | .assign x => match ρ x with
    | some a => some (a, H, none, false)
    | none => none
  | .pick c x y => match ρ c with
    | some (.b bb) => match ρ x, ρ y with
      | some (.b b1), some (.b b2) => some (.b (bif bb then b1 else b2), H, none, false)
      | _, _ => none
    | _ => none
  | .binOp op xT x y _ => match ρ x with
    | some a => match binE tb op xT a y with
      | some (r, q) => some (r, H, q, false)
      | none => match ρ y with
        | some b => match binF tb op xT a b with
          | some (r, q) => some (r, H, q, false)
          | none => none
        | none => none
    | none => none
  | .unOp .not _ x => match ρ x with
    | some (.b b) => some (.b (!b), H, none, false)
    | _ => none
  | .makeInterface T x => match ρ x with
    | some (.i n) => bif Nat.beq T tb.E then some (.er T n, H, some (n ≠ 0), false) else none
    | _ => none
  | .extract x k => match ρ x with
    | some (.tup l) => match getL l k with
      | some a => some (a, H, none, false)
      | none => none
    | _ => none
  | .nilCheck x => match ρ x with
    | some (.fl τ xs k j) => some (.fl τ xs k j, H, none, false)
    | some (.bp l c) => some (.bp l c, H, none, false)
    | some (.of n τ k j) => some (.of n τ k j, H, none, false)
    | some (.op n c) => some (.op n c, H, none, false)
    | _ => none
  | .call { callee := .builtin .len, args, argTypes } => match args.toList, argTypes.toList with
    | [x], [T] => lenF tb ρ H x T
    | _, _ => none
  | .call { callee := .builtin .min, args, .. } => match args.toList with
    | [x, y] => match ρ x, ρ y with
      | some (.i a), some (.i b) => some (.i (if b < a then b else a), H, none, false)
      | _, _ => none
    | _ => none
  | .call { callee := .builtin .max, args, .. } => match args.toList with
    | [x, y] => match ρ x, ρ y with
      | some (.i a), some (.i b) => some (.i (if a < b then b else a), H, none, false)
      | _, _ => none
    | _ => none
  | .call { callee := .builtin .append, args, argTypes } => match args.toList, argTypes.toList with
    | [s, x], [T, T'] => bif Nat.beq T T' then appF tb ρ H s x T else none
    | _, _ => none
  | .indexAddr T x j => match ρ x, ρ j with
    | some a, some (.i n) => match addrF tb H T a n with
      | some (r, q) => some (r, H, q, false)
      | none => none
    | _, _ => none
  | .fieldAddr T x f => match findF tb.fld T f with
    | some off => match ρ x with
      | some (.fl τ xs k j) => some (.fl τ xs k (j + off), H, none, false)
      | some (.bp l c) => some (.bp l (c + off), H, none, false)
      | some (.of n τ k j) => some (.of n τ k (j + off), H, none, false)
      | some (.op n c) => some (.op n (c + off), H, none, false)
      | _ => none
    | none => none
  | .load T x => match ρ x with
    | some a => match loadF tb H T a with
      | some (r, q) => some (r, H, q, false)
      | none => none
    | none => none
  | .store T x y => match ρ x, ρ y with
    | some a, some v => match storeF tb H T a v with
      | some (H', q) => some (.u undef, H', q, true)
      | none => none
    | _, _ => none
  | .slice T x lo hi none => match ρ x with
    | some a => match lo, hi with
      | some lo, some hi => match sliceF tb T a (ρ lo) (ρ hi) with
        | some (r, q) => match ρ lo, ρ hi with
          | some _, some _ => some (r, H, q, false)
          | _, _ => none
        | none => none
      | some lo, none => match ρ lo with
        | some l => match sliceF tb T a (some l) none with
          | some (r, q) => some (r, H, q, false)
          | none => none
        | none => none
      | none, some hi => match ρ hi with
        | some h => match sliceF tb T a none (some h) with
          | some (r, q) => some (r, H, q, false)
          | none => none
        | none => none
      | none, none => none
    | none => none
  | .box _ x => match ρ x with
    | some (.agg l) => some (.bp l 0, H, none, false)
    | some q => bif isCell q then some (.bp [q] 0, H, none, false) else none
    | none => none
  | .alloc T => match findT tb.zer T with
    | some l => some (.op (lenOD H) 0, H ++ [.box T l], none, true)
    | none => match findT tb.zar T with
      | some n => some (.op (lenOD H) 0, H ++ [.arr T .int (List.replicate n (0 : Int))], none, true)
      | none => none
  | .build T parts => match parts.toList with
    | [] => match findT tb.bz T with
      | some n => some (.agg (List.replicate n (.i 0)), H, none, false)
      | none => none
    | x0 :: l0 => match findT tb.bld T with
      | some n => match evsD ρ ((x0 :: l0).map (·.2)) with
        | some l => bif idxOK 0 (x0 :: l0) && Nat.beq (lenL l) n && allFlat l then some (.agg l, H, none, false) else none
        | none => none
      | none => none
  | .buildSlice T n parts => match findT tb.sl T with
    | some (_, τ, _) => match evsD ρ (parts.toList.map (·.2)) with
      | some l => match toTs τ l with
        | some xs => bif idxOK 0 parts.toList && Nat.beq (lenL l) n && Nat.blt 0 n && Nat.ble n 65536 && Nat.ble (n * τ.size) 16777216 then some (.sl τ xs, H, none, false) else none
        | none => none
      | none => none
    | none => none
  | .makeSlice T x y => match findT tb.sl T with
    | some (e, τ, bytes) => match findT tb.made T with
      | some (e', z) => match zT τ z with
        | some q => match ρ x, ρ y with
          | some (.i n), some (.i m) => bif Nat.beq e e' && Nat.beq τ.size 1 then some (.ob (lenOD H), H ++ [.row e τ (List.replicate n.toNat q)], some (m = n ∧ 0 ≤ n ∧ n ≤ 281474976710656 ∧ bytes * n.toNat ≤ 281474976710656), true) else none
          | _, _ => none
        | none => none
      | none => none
    | none => none
  | .index T x j => match findT tb.arr T with
    | some (_, sz) => match ρ x, ρ j with
      | some (.agg l), some (.i n) => match getL l n.toNat with
        | some a => some (a, H, some (0 ≤ n ∧ n < sz), false)
        | none => none
      | _, _ => none
    | none => none
  | .field T x f => match findF tb.fld T f with
    | some off => match ρ x with
      | some (.agg l) => match getL l off with
        | some a => some (a, H, none, false)
        | none => none
      | _ => none
    | none => none
  | _ => none
end Go.Qw
