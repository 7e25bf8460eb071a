/-
  An abstract machine over the model's own code, part D: operations on memory that is only read: lengths, addresses, loads, cuts of slices, structs and arrays as values, new boxes. No program is named here.
-/
import Derived.Test.YtmeacgkhabnjlaaDoorQwC
set_option linter.unusedSimpArgs false
set_option linter.unusedVariables false
set_option linter.unusedSectionVars false
namespace Go.Qw
open Go.RowKit

/-- FACTS ON A PROGRAM's TYPES, each closed by the kernel at one program. -/
def SliceT (P : Program) (T e : TypeId) (size : Nat) : Prop := P.underlying T = some (.slice e) ∧ (P.info? e).map (·.size) = some size
def AggT (P : Program) (T : TypeId) (size : Nat) : Prop := (∃ dd, P.underlying T = some dd ∧ (match dd with | .struct _ | .array _ _ => true | _ => false) = true) ∧ (P.info? T).map (·.size) = some size
def FieldT (P : Program) (T : TypeId) (f off size : Nat) : Prop := ∃ fs fd, P.underlying T = some (.struct fs) ∧ fs[f]? = some fd ∧ fd.offset = off ∧ (P.info? fd.type).map (·.size) = some size ∧ 0 < size ∧ ScalT P fd.type
def ArrayT (P : Program) (T e : TypeId) (n size : Nat) : Prop := P.underlying T = some (.array n e) ∧ (P.info? e).map (·.size) = some size

theorem run_sizeOf {P : Program} {e : TypeId} {size : Nat} (h : (P.info? e).map (·.size) = some size) (w : World) : (sizeOf e).run P w = .ok size w := by
  cases hi : P.info? e with
  | none => rw [hi] at h; cases h
  | some i => rw [hi] at h; simp at h; simp [sizeOf, typeInfo, hi, h]

theorem run_isAgg_agg {P : Program} {T : TypeId} {n : Nat} (h : AggT P T n) (w : World) : (isAgg T).run P w = .ok true w := by
  obtain ⟨⟨dd, h1, h2⟩, _⟩ := h
  simp only [isAgg, Sem.run_bind, run_underlying h1, Result.andThen_ok]
  cases dd <;> simp_all

theorem add_block (a : Addr) (n : Nat) : (a.add n).block = a.block := by unfold Addr.add; split <;> rfl
theorem add_add (a : Addr) (i j : Nat) : (a.add i).add j = a.add (i + j) := by
  unfold Addr.add
  by_cases hi : i = 0 <;> by_cases hj : j = 0 <;> simp [hi, hj, Nat.add_assoc]
theorem add_zero (a : Addr) : a.add 0 = a := by simp [Addr.add]

/-- THE ELEMENTS OF A SLICE, told by a function from each to its cells. -/
abbrev gi (n : Int) : List AV := [iv n]
abbrev gb (b : Bool) : List AV := [bv b]
abbrev ints (xs : List Int) : AV := .rd 1 (xs.flatMap gi)
abbrev gr (xs : List Int) : List AV := [ints xs]
abbrev rows (xs : List (List Int)) : AV := .rd 1 (xs.flatMap gr)
abbrev g2 (q : Int × Int) : List AV := [iv q.1, iv q.2]
abbrev twos (xs : List (Int × Int)) : AV := .rd 2 (xs.flatMap g2)

theorem flatMap_len {α β : Type} {g : α → List β} {size : Nat} (hg : ∀ x, (g x).length = size) (xs : List α) : (xs.flatMap g).length = xs.length * size := by
  induction xs with
  | nil => simp
  | cons x xs ih => simp [List.flatMap_cons, ih, hg, Nat.succ_mul]; omega
theorem flatMap_get {α β : Type} {g : α → List β} {size : Nat} (hg : ∀ x, (g x).length = size) : ∀ (xs : List α) (k : Nat) (hk : k < xs.length) (j : Nat), j < size → (xs.flatMap g)[k * size + j]? = (g xs[k])[j]?
  | [], k, hk, _, _ => by simp at hk
  | x :: xs, 0, _, j, hj => by
    rw [List.flatMap_cons, List.getElem?_append_left (by rw [hg]; omega)]
    simp
  | x :: xs, k + 1, hk, j, hj => by
    rw [List.flatMap_cons, List.getElem?_append_right (by rw [hg, Nat.succ_mul]; omega), hg, show (k + 1) * size + j - size = k * size + j by rw [Nat.succ_mul]; omega, flatMap_get hg xs k (by simpa using hk) j hj]
    simp
theorem flatMap_get' {α β : Type} (g : α → List β) (size : Nat) : ∀ (xs : List α), (∀ x ∈ xs, (g x).length = size) → ∀ (k : Nat) (hk : k < xs.length) (j : Nat), j < size → (xs.flatMap g)[k * size + j]? = (g xs[k])[j]?
  | [], _, k, hk, _, _ => by simp at hk
  | x :: xs, hg, 0, _, j, hj => by
    rw [List.flatMap_cons, List.getElem?_append_left (by rw [hg x (by simp)]; omega)]
    simp
  | x :: xs, hg, k + 1, hk, j, hj => by
    rw [List.flatMap_cons, List.getElem?_append_right (by rw [hg x (by simp), Nat.succ_mul]; omega), hg x (by simp), show (k + 1) * size + j - size = k * size + j by rw [Nat.succ_mul]; omega, flatMap_get' g size xs (fun y hy => hg y (by simp [hy])) k (by simpa using hk) j hj]
    simp
theorem flatMap_take {α β : Type} {g : α → List β} {size : Nat} (hg : ∀ x, (g x).length = size) : ∀ (xs : List α) (k : Nat), (xs.flatMap g).take (k * size) = (xs.take k).flatMap g
  | [], k => by simp
  | x :: xs, 0 => by simp
  | x :: xs, k + 1 => by
    rw [List.flatMap_cons, List.take_append, hg, List.take_of_length_le (by rw [hg, Nat.succ_mul]; omega), show (k + 1) * size - size = k * size by rw [Nat.succ_mul]; omega, flatMap_take hg xs k]
    simp
theorem flatMap_drop {α β : Type} {g : α → List β} {size : Nat} (hg : ∀ x, (g x).length = size) : ∀ (xs : List α) (k : Nat), (xs.flatMap g).drop (k * size) = (xs.drop k).flatMap g
  | [], k => by simp
  | x :: xs, 0 => by simp
  | x :: xs, k + 1 => by
    rw [List.flatMap_cons, List.drop_append, hg, List.drop_eq_nil_of_le (by rw [hg, Nat.succ_mul]; omega), show (k + 1) * size - size = k * size by rw [Nat.succ_mul]; omega, flatMap_drop hg xs k]
    simp
theorem flatMap_set {α β : Type} {g : α → List β} {size : Nat} (hg : ∀ x, (g x).length = size) {y : α} {b : β} : ∀ (xs : List α) (k : Nat) (hk : k < xs.length) (j : Nat), j < size → g y = (g xs[k]).set j b → (xs.flatMap g).set (k * size + j) b = (xs.set k y).flatMap g
  | [], k, hk, _, _, _ => by simp at hk
  | x :: xs, 0, _, j, hj, h => by
    simp only [List.getElem_cons_zero] at h
    rw [List.flatMap_cons, List.set_append_left _ _ (by rw [hg]; omega)]
    simp [List.flatMap_cons, h]
  | x :: xs, k + 1, hk, j, hj, h => by
    rw [List.flatMap_cons, List.set_append_right _ _ (by rw [hg, Nat.succ_mul]; omega), hg, show (k + 1) * size + j - size = k * size + j by rw [Nat.succ_mul]; omega,
      flatMap_set hg xs k (by simpa using hk) j hj (by simpa using h)]
    simp [List.flatMap_cons]

section
variable {P : Program} {C : Ctx} {ρ : Operand → Option AV} {H : List Ob} {d : Option Nat} {t : TypeId} {p : String} {af : Array Edge} {g : Option (Nat × Bool)}

theorem rd_len {ok : Nat → Prop} {w : World} {V : List Value} {α : Type} {gg : α → List AV} {size : Nat} (hg : ∀ x, (gg x).length = size) {xs : List α} {x : Value} (h : VRep ok w V (.rd size (xs.flatMap gg)) x) :
    ∃ A c, x = .slice A xs.length c ∧ xs.length ≤ c ∧ c ≤ maxLen ∧ (xs ≠ [] → ∃ ad us, A = some ad ∧ ok ad.block ∧ (∀ (j : Nat) (u : Value), us[j]? = some u → w.cell? (ad.add j) = some u) ∧ VReps ok w V (xs.flatMap gg) us) := by
  unfold VRep at h
  obtain ⟨hs, A, n, c, hx, hl, hn, hc, hr⟩ := h
  rw [flatMap_len hg] at hl
  have hn' : n = xs.length := (Nat.eq_of_mul_eq_mul_right hs hl).symm
  subst hn'
  refine ⟨A, c, hx, hn, hc, fun hne => hr fun h0 => hne ?_⟩
  have h2 := flatMap_len hg xs
  rw [h0, List.length_nil] at h2
  refine List.eq_nil_of_length_eq_zero ?_
  rcases Nat.eq_zero_or_pos xs.length with h | h
  · exact h
  · have := Nat.mul_pos h hs
    omega

/-- 'len(x)'. -/
theorem VStep.len {α : Type} {gg : α → List AV} {size : Nat} {xs : List α} {x : Operand} {T e : TypeId} (hx : ρ x = some (.rd size (xs.flatMap gg))) (hg : ∀ x, (gg x).length = size) (hT : P.underlying T = some (.slice e)) :
    VStep P C ⟨d, .call { callee := .builtin .len, args := #[x], argTypes := #[T] }, t, p, af, g⟩ ρ H (iv (xs.length : Int)) H :=
  .same fun σ w V F _ h => by
    obtain ⟨A, c, hu, _⟩ := rd_len hg (h x (by simp [Op.operands, Call.operands]) _ hx)
    exact ⟨.int .i64 xs.length, by simp [execOp, resolve, invoke, builtin, Builtin.len_, hu, run_underlying hT, goInt], VRep.v_iff.2 rfl⟩
theorem VStep.lenNil {x : Operand} {T e : TypeId} (hx : ρ x = some (.v (.slice none 0 0))) (hT : P.underlying T = some (.slice e)) :
    VStep P C ⟨d, .call { callee := .builtin .len, args := #[x], argTypes := #[T] }, t, p, af, g⟩ ρ H (iv 0) H :=
  .same fun σ w V F _ h => by
    have hu := VRep.v_iff.1 (h x (by simp [Op.operands, Call.operands]) _ hx)
    exact ⟨.int .i64 0, by simp [execOp, resolve, invoke, builtin, Builtin.len_, hu, run_underlying hT, goInt], VRep.v_iff.2 rfl⟩

/-- 'min(x, y)' of two ints. -/
theorem VStep.min2 {x y : Operand} {a b : Int} {ats : Array TypeId} (hx : ρ x = some (iv a)) (hy : ρ y = some (iv b)) :
    VStep P C ⟨d, .call { callee := .builtin .min, args := #[x, y], argTypes := ats }, t, p, af, g⟩ ρ H (iv (if b < a then b else a)) H :=
  .same fun σ w V F _ h => by
    have e1 := VRep.v_iff.1 (h x (by simp [Op.operands, Call.operands]) _ hx)
    have e2 := VRep.v_iff.1 (h y (by simp [Op.operands, Call.operands]) _ hy)
    exact ⟨.int .i64 (if b < a then b else a), by simp [execOp, resolve, invoke, builtin, Builtin.min_, e1, e2, Builtin.min2], VRep.v_iff.2 rfl⟩
theorem VStep.max2 {x y : Operand} {a b : Int} {ats : Array TypeId} (hx : ρ x = some (iv a)) (hy : ρ y = some (iv b)) :
    VStep P C ⟨d, .call { callee := .builtin .max, args := #[x, y], argTypes := ats }, t, p, af, g⟩ ρ H (iv (if a < b then b else a)) H :=
  .same fun σ w V F _ h => by
    have e1 := VRep.v_iff.1 (h x (by simp [Op.operands, Call.operands]) _ hx)
    have e2 := VRep.v_iff.1 (h y (by simp [Op.operands, Call.operands]) _ hy)
    exact ⟨.int .i64 (if a < b then b else a), by simp [execOp, resolve, invoke, builtin, Builtin.max_, e1, e2, Builtin.max2], VRep.v_iff.2 rfl⟩

/-- '&x[i]'. -/
theorem VStep.indexAddrI {α : Type} {gg : α → List AV} {size : Nat} {xs : List α} {x i : Operand} {T e : TypeId} {k : IntKind} {n : Int} (hx : ρ x = some (.rd size (xs.flatMap gg))) (hi : ρ i = some (.v (.int k n))) (hg : ∀ x, (gg x).length = size)
    (hT : SliceT P T e size) (h0 : 0 ≤ n ∧ n < xs.length) : VStep P C ⟨d, .indexAddr T x i, t, p, af, g⟩ ρ H (.rp (xs.flatMap gg) (n.toNat * size + 0)) H :=
  .same fun σ w V F _ h => by
    obtain ⟨A, c, hu, hc, hm, hr⟩ := rd_len hg (h x (by simp [Op.operands]) _ hx)
    have e2 := VRep.v_iff.1 (h i (by simp [Op.operands]) _ hi)
    obtain ⟨ad, us, rfl, ho, hcell, hus⟩ := hr (by intro h; subst h; simp at h0; omega)
    refine ⟨.pointer (some (ad.add (n.toNat * size))), by simp [execOp, Instr.indexAt, asIntOf, hu, e2, run_underlying hT.1, run_sizeOf hT.2, h0], ?_⟩
    unfold VRep
    exact ⟨ad, us, rfl, ho, hcell, hus⟩
theorem VStep.indexAddr {α : Type} {gg : α → List AV} {size : Nat} {xs : List α} {x i : Operand} {T e : TypeId} {n : Nat} (hx : ρ x = some (.rd size (xs.flatMap gg))) (hi : ρ i = some (iv (n : Int))) (hg : ∀ x, (gg x).length = size)
    (hT : SliceT P T e size) (h0 : n < xs.length) : VStep P C ⟨d, .indexAddr T x i, t, p, af, g⟩ ρ H (.rp (xs.flatMap gg) (n * size + 0)) H := by
  have := VStep.indexAddrI (P := P) (C := C) (H := H) (d := d) (t := t) (p := p) (af := af) (g := g) hx hi hg hT (by omega)
  rwa [Int.toNat_natCast] at this

/-- '&a.f'. -/
theorem run_fieldAt {T : TypeId} {f off size : Nat} (hT : FieldT P T f off size) (a : Addr) (w : World) : (Instr.fieldAt T (.pointer (some a)) f).run P w = .ok (.pointer (some (a.add off))) w := by
  obtain ⟨fs, fd, h1, h2, rfl, h3, h4, _⟩ := hT
  simp [Instr.fieldAt, run_underlying h1, h2, Instr.sureAddr, fieldPlace, run_sizeOf h3, show size ≠ 0 by omega]
theorem VStep.fieldAddr {cs : List AV} {c j : Nat} {x : Operand} {T : TypeId} {f off size : Nat} (hx : ρ x = some (.rp cs (c + j))) (hT : FieldT P T f off size) : VStep P C ⟨d, .fieldAddr T x f, t, p, af, g⟩ ρ H (.rp cs (c + (j + off))) H :=
  .same fun σ w V F _ h => by
    have h1 := h x (by simp [Op.operands]) _ hx
    unfold VRep at h1
    obtain ⟨ad, us, hu, ho, hcell, hus⟩ := h1
    refine ⟨.pointer (some ((ad.add (c + j)).add off)), by simp [execOp, hu, run_fieldAt hT], ?_⟩
    unfold VRep
    exact ⟨ad, us, by rw [add_add, Nat.add_assoc], ho, hcell, hus⟩
theorem VStep.fieldAddrO {n c j : Nat} {x : Operand} {T : TypeId} {f off size : Nat} (hx : ρ x = some (.op n (c + j))) (hT : FieldT P T f off size) : VStep P C ⟨d, .fieldAddr T x f, t, p, af, g⟩ ρ H (.op n (c + (j + off))) H :=
  .same fun σ w V F _ h => by
    have h1 := h x (by simp [Op.operands]) _ hx
    unfold VRep at h1
    obtain ⟨ad, hb, hu⟩ := h1
    refine ⟨.pointer (some ((ad.add (c + j)).add off)), by simp [execOp, hu, run_fieldAt hT], ?_⟩
    unfold VRep
    exact ⟨ad, hb, by rw [add_add, Nat.add_assoc]⟩

theorem run_loadVar_one {T : TypeId} {a : Addr} {u : Value} {w : World} (hT : ScalT P T) (hc : w.cell? a = some u) : (loadVar T a).run P w = .ok u w := by
  simp [loadVar, run_isAgg_scal hT, hc]
theorem run_loadVar_agg {T : TypeId} {a : Addr} {us : List Value} {w : World} (hT : AggT P T us.length) (hc : ∀ (j : Nat) (u : Value), us[j]? = some u → w.cell? (a.add j) = some u) : (loadVar T a).run P w = .ok (.agg us.toArray) w := by
  simp [loadVar, run_isAgg_agg hT, run_sizeOf hT.2, run_loadCells_list w a us hc]

/-- '*a' of one cell. -/
theorem VStep.loadAt {cs : List AV} {c : Nat} {x : Operand} {T : TypeId} {a : AV} (hx : ρ x = some (.rp cs c)) (hT : ScalT P T) (hc : cs[c]? = some a) : VStep P C ⟨d, .load T x, t, p, af, g⟩ ρ H a H :=
  .same fun σ w V F _ h => by
    have h1 := h x (by simp [Op.operands]) _ hx
    unfold VRep at h1
    obtain ⟨ad, us, hu, ho, hcell, hus⟩ := h1
    obtain ⟨y, hy, hr⟩ := hus.get c a hc
    exact ⟨y, by simp [execOp, Instr.loadAt, Instr.sureAddr, hu, run_loadVar_one hT (hcell c y hy)], hr⟩
theorem VStep.load {α : Type} {gg : α → List AV} {size k j : Nat} {xs : List α} {x : Operand} {T : TypeId} {a : AV} (hx : ρ x = some (.rp (xs.flatMap gg) (k * size + j))) (hT : ScalT P T) (hg : ∀ x, (gg x).length = size) (hk : k < xs.length)
    (ha : (gg xs[k])[j]? = some a) : VStep P C ⟨d, .load T x, t, p, af, g⟩ ρ H a H :=
  .loadAt hx hT (by
    rw [flatMap_get hg xs k hk j (by have := (List.getElem?_eq_some_iff.1 ha).1; rw [hg] at this; exact this)]
    exact ha)
/-- '*a' of a struct or an array. -/
theorem VStep.loadAggAt {cs l : List AV} {c : Nat} {x : Operand} {T : TypeId} {size : Nat} (hx : ρ x = some (.rp cs c)) (hT : AggT P T size) (hl : l.length = size) (hc : (cs.drop c).take size = l) : VStep P C ⟨d, .load T x, t, p, af, g⟩ ρ H (.agg l) H :=
  .same fun σ w V F _ h => by
    have h1 := h x (by simp [Op.operands]) _ hx
    unfold VRep at h1
    obtain ⟨ad, us, hu, ho, hcell, hus⟩ := h1
    have hv : VReps (okB C w F) w V l ((us.drop c).take size) := by rw [← hc]; exact (hus.drop c).take size
    have hlen : ((us.drop c).take size).length = size := by rw [hv.length, hl]
    refine ⟨.agg ((us.drop c).take size).toArray, ?_, ?_⟩
    · simp only [execOp, Instr.loadAt, Instr.sureAddr, hu, Sem.run_bind, Sem.run_pure, Result.andThen_ok]
      rw [run_loadVar_agg (by rw [hlen]; exact hT) fun j u hj => ?_]
      · rfl
      · rw [add_add]
        refine hcell _ u ?_
        rw [List.getElem?_take] at hj
        split at hj
        · rwa [List.getElem?_drop] at hj
        · cases hj
    · unfold VRep
      exact ⟨_, rfl, by simpa using hv⟩
theorem VStep.loadAgg {α : Type} {gg : α → List AV} {size k : Nat} {xs : List α} {x : Operand} {T : TypeId} (hx : ρ x = some (.rp (xs.flatMap gg) (k * size + 0))) (hT : AggT P T size) (hg : ∀ x, (gg x).length = size) (hk : k < xs.length) :
    VStep P C ⟨d, .load T x, t, p, af, g⟩ ρ H (.agg (gg xs[k])) H :=
  .loadAggAt hx hT (hg _) (by
    rw [Nat.add_zero, flatMap_drop hg, List.drop_eq_getElem_cons hk, List.flatMap_cons, List.take_append_of_le_length (by rw [hg]; exact Nat.le_refl _), List.take_of_length_le (by rw [hg]; exact Nat.le_refl _)])

/-- 'x[lo:hi]' of a slice that is only read. -/
theorem run_sliceBound {k : IntKind} {n y : Nat} {code : BoundsCode} (h : n ≤ y) (w : World) : (Instr.sliceBound (.int k (n : Int)) y code).run P w = .ok n w := by
  have : 0 ≤ (n : Int) ∧ (n : Int) ≤ y := by omega
  simp [Instr.sliceBound, asIntOf, this]
theorem rd_cut {ok : Nat → Prop} {w : World} {V : List Value} {size : Nat} {cs : List AV} {A : Option Addr} {n c l h : Nat} (hr : VRep ok w V (.rd size cs) (.slice A n c)) (hlh : l ≤ h) (hh : h ≤ n) :
    VRep ok w V (.rd size ((cs.take (h * size)).drop (l * size))) (.slice (if c = l then A else A.map (·.add (l * size))) (h - l) (c - l)) := by
  unfold VRep at hr ⊢
  obtain ⟨hs, A', n', c', hx, hl, hn, hc, hr⟩ := hr
  cases hx
  have hmul : h * size ≤ n * size := Nat.mul_le_mul_right _ hh
  refine ⟨hs, _, _, _, rfl, by rw [List.length_drop, List.length_take, hl, Nat.min_eq_left hmul, Nat.sub_mul], by omega, by omega, fun hne => ?_⟩
  have hpos : l < h := by
    rcases Nat.lt_or_ge l h with h1 | h1
    · exact h1
    · exfalso
      apply hne
      apply List.eq_nil_of_length_eq_zero
      rw [List.length_drop, List.length_take, hl, Nat.min_eq_left hmul]
      have : h * size ≤ l * size := Nat.mul_le_mul_right _ h1
      omega
  obtain ⟨ad, us, rfl, ho, hcell, hus⟩ := hr fun h0 => by
    subst h0
    simp at hne
  rw [if_neg (by omega)]
  refine ⟨ad.add (l * size), (us.take (h * size)).drop (l * size), rfl, by rw [add_block]; exact ho, fun j u hj => ?_, (hus.take _).drop _⟩
  rw [add_add]
  refine hcell _ u ?_
  rw [List.getElem?_drop, List.getElem?_take] at hj
  split at hj
  · exact hj
  · cases hj
theorem VStep.slice {α : Type} {gg : α → List AV} {size : Nat} {xs : List α} {x lo hi : Operand} {T e : TypeId} {k k' : IntKind} {l h : Nat} (hx : ρ x = some (.rd size (xs.flatMap gg))) (hlo : ρ lo = some (.v (.int k (l : Int)))) (hhi : ρ hi = some (.v (.int k' (h : Int))))
    (hg : ∀ x, (gg x).length = size) (hT : SliceT P T e size) (hb : l ≤ h ∧ h ≤ xs.length) : VStep P C ⟨d, .slice T x (some lo) (some hi) none, t, p, af, g⟩ ρ H (.rd size (((xs.take h).drop l).flatMap gg)) H :=
  .same fun σ w V F _ hh => by
    have h1 := hh x (by simp [Op.operands]) _ hx
    have e1 := VRep.v_iff.1 (hh lo (by simp [Op.operands]) _ hlo)
    have e2 := VRep.v_iff.1 (hh hi (by simp [Op.operands]) _ hhi)
    obtain ⟨A, c, hu, hc, _⟩ := rd_len hg h1
    have h2 := h1
    rw [hu] at h2
    refine ⟨_, by
      simp only [execOp, Option.map_some, Option.map_none, Instr.sliceAt, Instr.slice, Instr.sliceBounds, hu, e1, e2, Sem.run_bind, Sem.run_pure, Result.andThen_ok, run_underlying hT.1]
      simp [run_sliceBound (show h ≤ c by omega), run_sliceBound hb.1, run_sizeOf hT.2]
      rfl, ?_⟩
    have := rd_cut h2 hb.1 hb.2
    rwa [flatMap_take hg, flatMap_drop hg] at this
theorem VStep.sliceLo {α : Type} {gg : α → List AV} {size : Nat} {xs : List α} {x lo : Operand} {T e : TypeId} {k : IntKind} {l : Nat} (hx : ρ x = some (.rd size (xs.flatMap gg))) (hlo : ρ lo = some (.v (.int k (l : Int))))
    (hg : ∀ x, (gg x).length = size) (hT : SliceT P T e size) (hb : l ≤ xs.length) : VStep P C ⟨d, .slice T x (some lo) none none, t, p, af, g⟩ ρ H (.rd size ((xs.drop l).flatMap gg)) H :=
  .same fun σ w V F _ hh => by
    have h1 := hh x (by simp [Op.operands]) _ hx
    have e1 := VRep.v_iff.1 (hh lo (by simp [Op.operands]) _ hlo)
    obtain ⟨A, c, hu, hc, _⟩ := rd_len hg h1
    have h2 := h1
    rw [hu] at h2
    refine ⟨_, by
      simp only [execOp, Option.map_some, Option.map_none, Instr.sliceAt, Instr.slice, Instr.sliceBounds, hu, e1, Sem.run_bind, Sem.run_pure, Result.andThen_ok, run_underlying hT.1]
      simp [run_sliceBound hb, run_sizeOf hT.2]
      rfl, ?_⟩
    have := rd_cut h2 hb (Nat.le_refl _)
    rwa [flatMap_take hg, flatMap_drop hg, List.take_length] at this
theorem VStep.sliceHi {α : Type} {gg : α → List AV} {size : Nat} {xs : List α} {x hi : Operand} {T e : TypeId} {k' : IntKind} {h : Nat} (hx : ρ x = some (.rd size (xs.flatMap gg))) (hhi : ρ hi = some (.v (.int k' (h : Int))))
    (hg : ∀ x, (gg x).length = size) (hT : SliceT P T e size) (hb : h ≤ xs.length) : VStep P C ⟨d, .slice T x none (some hi) none, t, p, af, g⟩ ρ H (.rd size ((xs.take h).flatMap gg)) H :=
  .same fun σ w V F _ hh => by
    have h1 := hh x (by simp [Op.operands]) _ hx
    have e2 := VRep.v_iff.1 (hh hi (by simp [Op.operands]) _ hhi)
    obtain ⟨A, c, hu, hc, _⟩ := rd_len hg h1
    have h2 := h1
    rw [hu] at h2
    refine ⟨_, by
      simp only [execOp, Option.map_some, Option.map_none, Instr.sliceAt, Instr.slice, Instr.sliceBounds, hu, e2, Sem.run_bind, Sem.run_pure, Result.andThen_ok, run_underlying hT.1]
      simp [run_sliceBound (show h ≤ c by omega), run_sizeOf hT.2]
      rfl, ?_⟩
    have := rd_cut h2 (Nat.zero_le _) hb
    simp only [Nat.zero_mul, List.drop_zero] at this
    rwa [flatMap_take hg] at this

/-- 'x[:h]' of an array behind a pointer. -/
theorem VStep.sliceArr {x hi : Operand} {T e : TypeId} {cs : List AV} {n h : Nat} {k : IntKind} (hx : ρ x = some (.rp cs 0)) (hh : ρ hi = some (.v (.int k (h : Int)))) (hT : ArrayT P T e n 1) (hn : cs.length = n) (hm : n ≤ maxLen) (hb : h ≤ n) : VStep P C ⟨d, .slice T x none (some hi) none, t, p, af, g⟩ ρ H (.rd 1 (cs.take h)) H :=
  .same fun σ w V F m hρ => by
    have h1 := hρ x (by simp [Op.operands]) _ hx
    have e2 := VRep.v_iff.1 (hρ hi (by simp [Op.operands]) _ hh)
    unfold VRep at h1
    obtain ⟨ad, us, hxe, hok, hcell, hus⟩ := h1
    have hxe : σ x = .pointer (some ad) := by rw [hxe]; simp [Addr.add]
    refine ⟨.slice (some ad) h n, ?_, ?_⟩
    · simp only [execOp, Option.map_some, Option.map_none, Instr.sliceAt, Instr.sliceBounds, hxe, e2, Sem.run_bind, Sem.run_pure, Result.andThen_ok, run_underlying hT.1]
      simp [Instr.sureAddr, run_sliceBound hb, run_sizeOf hT.2, Addr.add]
    · unfold VRep
      exact ⟨by decide, some ad, h, n, rfl, by simp; omega, hb, hm, fun _ => ⟨ad, us.take h, rfl, hok, fun j u hj => hcell j u (by
        rw [List.getElem?_take] at hj
        split at hj
        · exact hj
        · cases hj), hus.take h⟩⟩

/-- A struct or an array by value is laid in a box; it is only read from there. -/
theorem VStep.box {x : Operand} {T : TypeId} {l : List AV} (hx : ρ x = some (.agg l)) : VStep P C ⟨d, .box T x, t, p, af, g⟩ ρ H (.rp l (0 + 0)) H := fun σ w V F m hρ => by
  have h1 := hρ x (by simp [Op.operands]) _ hx
  unfold VRep at h1
  obtain ⟨us, hu, hus⟩ := h1
  obtain ⟨m2, e2⟩ := m.alloc (.cells us T)
  refine .inl ⟨.pointer (some ⟨w.heap.size, 0, none⟩), w.alloc (.cells us T), .inl (by simp [execOp, Instr.box, newVar, newRow, hu, Value.cells]), V, F, m2, e2, ?_⟩
  unfold VRep
  refine ⟨⟨w.heap.size, 0, none⟩, us.toList, by simp [Addr.add], ⟨.inr m.size, by simp, fun f hf hb => by have := (m.own f hf _ hb).1; simp at this⟩, fun j u hj => ?_, e2.reps hus⟩
  have hadd : (⟨w.heap.size, 0, none⟩ : Addr).add j = ⟨w.heap.size, j, none⟩ := by unfold Addr.add; split <;> simp_all
  rw [hadd, cell_of_row _ _ j us T (0, 0) (heap_alloc_new w _)]
  simpa using hj

/-- 'x[i]' of an array by value, its elements of one cell. -/
theorem VStep.indexArr {x i : Operand} {T e : TypeId} {l : List AV} {n : Nat} {k : IntKind} {z : Int} {a : AV} (hx : ρ x = some (.agg l)) (hi : ρ i = some (.v (.int k z))) (hT : ArrayT P T e n 1) (hs : ScalT P e) (h0 : 0 ≤ z ∧ z < n) (ha : l[z.toNat]? = some a) :
    VStep P C ⟨d, .index T x i, t, p, af, g⟩ ρ H a H :=
  .same fun σ w V F _ h => by
    have h1 := h x (by simp [Op.operands]) _ hx
    have e2 := VRep.v_iff.1 (h i (by simp [Op.operands]) _ hi)
    unfold VRep at h1
    obtain ⟨us, hu, hus⟩ := h1
    obtain ⟨y, hy, hr⟩ := hus.get _ a ha
    have hy' : us[z.toNat]? = some y := by simpa using hy
    exact ⟨y, by simp [execOp, Instr.index, asIntOf, hu, e2, run_underlying hT.1, h0, run_sizeOf hT.2, part_one hs hy'], hr⟩
/-- 'x.f' of a struct by value. -/
theorem VStep.field {x : Operand} {T : TypeId} {f off size : Nat} {l : List AV} {a : AV} (hx : ρ x = some (.agg l)) (hT : FieldT P T f off size) (ha : l[off]? = some a) : VStep P C ⟨d, .field T x f, t, p, af, g⟩ ρ H a H :=
  .same fun σ w V F _ h => by
    have h1 := h x (by simp [Op.operands]) _ hx
    unfold VRep at h1
    obtain ⟨us, hu, hus⟩ := h1
    obtain ⟨y, hy, hr⟩ := hus.get _ a ha
    obtain ⟨fs, fd, h2, h3, rfl, _, _, h4⟩ := hT
    have hy' : us[fd.offset]? = some y := by simpa using hy
    exact ⟨y, by simp [execOp, Instr.field, hu, asAgg, run_underlying h2, h3, part_one h4 hy'], hr⟩
end
end Go.Qw
