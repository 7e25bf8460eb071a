/-
  An abstract machine over the model's own code, part C: what each operation does that only reckons: moves, numbers, tests, tuples, calls of functions by their contracts. No program is named here.
-/
import Derived.Test.YtmeacgkhabnjlaaDoorQwB
set_option linter.unusedSimpArgs false
set_option linter.unusedVariables false
set_option linter.unusedSectionVars false
namespace Go.Qw
open Go.RowKit

abbrev iv (n : Int) : AV := .v (.int .i64 n)
abbrev bv (b : Bool) : AV := .v (.bool b)
/-- The error whose number is e, of the type T; 0: nil. -/
def errV (T : TypeId) (e : Int) : Value := if e = 0 then .nilIface else .iface T (.int .i64 e)
abbrev er (T : TypeId) (e : Int) : AV := .v (errV T e)

section
variable {P : Program} {C : Ctx} {ρ : Operand → Option AV} {H : List Ob} {d : Option Nat} {t : TypeId} {p : String} {af : Array Edge} {g : Option (Nat × Bool)}

theorem VStep.same {o : Oper} {av : AV} (h : ∀ (σ : Operand → Value) (w : World) (V : List Value) (F : List (List Nat)), Mem C H V F w → (∀ x ∈ o.op.operands, ∀ b, ρ x = some b → VRep (okB C w F) w V b (σ x)) →
    ∃ u, (execOp σ o).run P w = .ok (.value u) w ∧ VRep (okB C w F) w V av u) : VStep P C o ρ H av H := fun σ w V F m hρ =>
  let ⟨u, hr, hv⟩ := h σ w V F m hρ
  .inl ⟨u, w, .inl hr, V, F, m, Ext.refl _ _ _ _, hv⟩

theorem VRep.v_iff {ok : Nat → Prop} {w : World} {V : List Value} {u x : Value} : VRep ok w V (.v u) x ↔ x = u := by unfold VRep; exact Iff.rfl

theorem VStep.move {x : Operand} {a : AV} (hx : ρ x = some a) : VStep P C ⟨d, .move x, t, p, af, g⟩ ρ H a H :=
  .same fun σ w V F _ h => ⟨σ x, by simp [execOp], h x (by simp [Op.operands]) a hx⟩
theorem VStep.assign {x : Operand} {a : AV} (hx : ρ x = some a) : VStep P C ⟨d, .assign x, t, p, af, g⟩ ρ H a H :=
  .same fun σ w V F _ h => ⟨σ x, by simp [execOp], h x (by simp [Op.operands]) a hx⟩
theorem VStep.pickT {c x y : Operand} {b : Bool} {a : AV} (hc : ρ c = some (bv b)) (hb : b = true) (hx : ρ x = some a) : VStep P C ⟨d, .pick c x y, t, p, af, g⟩ ρ H a H :=
  .same fun σ w V F _ h => ⟨σ x, by
    have := VRep.v_iff.1 (h c (by simp [Op.operands]) _ hc)
    subst hb
    simp [execOp, this, asBool], h x (by simp [Op.operands]) a hx⟩
theorem VStep.pickF {c x y : Operand} {b : Bool} {a : AV} (hc : ρ c = some (bv b)) (hb : b = false) (hy : ρ y = some a) : VStep P C ⟨d, .pick c x y, t, p, af, g⟩ ρ H a H :=
  .same fun σ w V F _ h => ⟨σ y, by
    have := VRep.v_iff.1 (h c (by simp [Op.operands]) _ hc)
    subst hb
    simp [execOp, this, asBool], h y (by simp [Op.operands]) a hy⟩
/-- Both ways known: what is picked of two Booleans. -/
theorem VStep.pickB {c x y : Operand} {b b1 b2 : Bool} (hc : ρ c = some (bv b)) (hx : ρ x = some (bv b1)) (hy : ρ y = some (bv b2)) : VStep P C ⟨d, .pick c x y, t, p, af, g⟩ ρ H (bv (if b = true then b1 else b2)) H :=
  .same fun σ w V F _ h => ⟨.bool (if b = true then b1 else b2), by
    have e1 := VRep.v_iff.1 (h c (by simp [Op.operands]) _ hc)
    have e2 := VRep.v_iff.1 (h x (by simp [Op.operands]) _ hx)
    have e3 := VRep.v_iff.1 (h y (by simp [Op.operands]) _ hy)
    cases b <;> simp [execOp, e1, e2, e3, asBool], VRep.v_iff.2 rfl⟩

theorem VStep.un {op : UnOp} {xT : TypeId} {x : Operand} {a u : Value} (hx : ρ x = some (.v a)) (hr : ∀ w : World, (Op.unary op a).run P w = .ok u w) : VStep P C ⟨d, .unOp op xT x, t, p, af, g⟩ ρ H (.v u) H :=
  .same fun σ w V F _ h => ⟨u, by
    have := VRep.v_iff.1 (h x (by simp [Op.operands]) _ hx)
    simp [execOp, this, hr], VRep.v_iff.2 rfl⟩
theorem VStep.not {xT : TypeId} {x : Operand} {b : Bool} (hx : ρ x = some (bv b)) : VStep P C ⟨d, .unOp .not xT x, t, p, af, g⟩ ρ H (bv (!b)) H := .un hx fun _ => by simp [Op.unary]

theorem VStep.bin {op : BinOp} {xT yT : TypeId} {x y : Operand} {a b u : Value} (hx : ρ x = some (.v a)) (hy : ρ y = some (.v b)) (hg : ∀ w : World, (eqGuard op xT x y a b).run P w = .ok () w)
    (hr : ∀ w : World, (binOp op xT a b).run P w = .ok u w) : VStep P C ⟨d, .binOp op xT x y yT, t, p, af, g⟩ ρ H (.v u) H :=
  .same fun σ w V F _ h => ⟨u, by
    have e1 := VRep.v_iff.1 (h x (by simp [Op.operands]) _ hx)
    have e2 := VRep.v_iff.1 (h y (by simp [Op.operands]) _ hy)
    simp [execOp, e1, e2, hg, hr], VRep.v_iff.2 rfl⟩

theorem eqGuard_int {op : BinOp} {xT : TypeId} {x y : Operand} {k k' : IntKind} {a b : Int} (w : World) : (eqGuard op xT x y (.int k a) (.int k' b)).run P w = .ok () w := by
  cases op <;> simp [eqGuard]

section
variable {xT yT : TypeId} {x y : Operand} {k : IntKind} {a b : Int}
theorem VStep.int2 {op : BinOp} {u : Value} (hx : ρ x = some (.v (.int k a))) (hy : ρ y = some (.v (.int k b))) (hr : ∀ w : World, (binOp op xT (.int k a) (.int k b)).run P w = .ok u w) :
    VStep P C ⟨d, .binOp op xT x y yT, t, p, af, g⟩ ρ H (.v u) H := .bin hx hy (fun w => eqGuard_int w) hr

theorem VStep.lss (hx : ρ x = some (.v (.int k a))) (hy : ρ y = some (.v (.int k b))) : VStep P C ⟨d, .binOp .lss xT x y yT, t, p, af, g⟩ ρ H (bv (decide (a < b))) H := .int2 hx hy fun _ => by simp [binOp, Op.intCmp]
theorem VStep.leq (hx : ρ x = some (.v (.int k a))) (hy : ρ y = some (.v (.int k b))) : VStep P C ⟨d, .binOp .leq xT x y yT, t, p, af, g⟩ ρ H (bv (decide (a ≤ b))) H := .int2 hx hy fun _ => by simp [binOp, Op.intCmp]
theorem VStep.gtr (hx : ρ x = some (.v (.int k a))) (hy : ρ y = some (.v (.int k b))) : VStep P C ⟨d, .binOp .gtr xT x y yT, t, p, af, g⟩ ρ H (bv (decide (b < a))) H := .int2 hx hy fun _ => by simp [binOp, Op.intCmp]
theorem VStep.geq (hx : ρ x = some (.v (.int k a))) (hy : ρ y = some (.v (.int k b))) : VStep P C ⟨d, .binOp .geq xT x y yT, t, p, af, g⟩ ρ H (bv (decide (b ≤ a))) H := .int2 hx hy fun _ => by simp [binOp, Op.intCmp]
theorem VStep.eql (hx : ρ x = some (.v (.int k a))) (hy : ρ y = some (.v (.int k b))) : VStep P C ⟨d, .binOp .eql xT x y yT, t, p, af, g⟩ ρ H (bv (decide (a = b))) H := .int2 hx hy fun _ => by simp [binOp, Op.intCmp]; rfl
theorem VStep.neq (hx : ρ x = some (.v (.int k a))) (hy : ρ y = some (.v (.int k b))) : VStep P C ⟨d, .binOp .neq xT x y yT, t, p, af, g⟩ ρ H (bv (decide (a ≠ b))) H := .int2 hx hy fun _ => by
  simp only [binOp, Op.intCmp]
  simp [bne, BEq.beq]
theorem VStep.addW (hx : ρ x = some (.v (.int k a))) (hy : ρ y = some (.v (.int k b))) : VStep P C ⟨d, .binOp .add xT x y yT, t, p, af, g⟩ ρ H (.v (.int k (k.wrap (a + b)))) H := .int2 hx hy fun _ => by simp [binOp, Op.intArith]
theorem VStep.subW (hx : ρ x = some (.v (.int k a))) (hy : ρ y = some (.v (.int k b))) : VStep P C ⟨d, .binOp .sub xT x y yT, t, p, af, g⟩ ρ H (.v (.int k (k.wrap (a - b)))) H := .int2 hx hy fun _ => by simp [binOp, Op.intArith]
theorem VStep.mulW (hx : ρ x = some (.v (.int k a))) (hy : ρ y = some (.v (.int k b))) : VStep P C ⟨d, .binOp .mul xT x y yT, t, p, af, g⟩ ρ H (.v (.int k (k.wrap (a * b)))) H := .int2 hx hy fun _ => by simp [binOp, Op.intArith]
theorem VStep.add (hx : ρ x = some (iv a)) (hy : ρ y = some (iv b)) (h : -9223372036854775808 ≤ a + b ∧ a + b ≤ 9223372036854775807) : VStep P C ⟨d, .binOp .add xT x y yT, t, p, af, g⟩ ρ H (iv (a + b)) H := by
  have := VStep.addW (P := P) (C := C) (H := H) (d := d) (t := t) (p := p) (af := af) (g := g) (xT := xT) (yT := yT) hx hy
  rwa [IntWalk.i64_in _ h] at this
theorem VStep.sub (hx : ρ x = some (iv a)) (hy : ρ y = some (iv b)) (h : -9223372036854775808 ≤ a - b ∧ a - b ≤ 9223372036854775807) : VStep P C ⟨d, .binOp .sub xT x y yT, t, p, af, g⟩ ρ H (iv (a - b)) H := by
  have := VStep.subW (P := P) (C := C) (H := H) (d := d) (t := t) (p := p) (af := af) (g := g) (xT := xT) (yT := yT) hx hy
  rwa [IntWalk.i64_in _ h] at this
theorem VStep.mul (hx : ρ x = some (iv a)) (hy : ρ y = some (iv b)) (h : -9223372036854775808 ≤ a * b ∧ a * b ≤ 9223372036854775807) : VStep P C ⟨d, .binOp .mul xT x y yT, t, p, af, g⟩ ρ H (iv (a * b)) H := by
  have := VStep.mulW (P := P) (C := C) (H := H) (d := d) (t := t) (p := p) (af := af) (g := g) (xT := xT) (yT := yT) hx hy
  rwa [IntWalk.i64_in _ h] at this
/-- The counter of a range, one more: as a natural number. -/
theorem VStep.addN {n : Nat} (hx : ρ x = some (iv (n : Int))) (hy : ρ y = some (iv 1)) (h : n < 9223372036854775807) : VStep P C ⟨d, .binOp .add xT x y yT, t, p, af, g⟩ ρ H (iv ((n + 1 : Nat) : Int)) H := by
  have := VStep.add (P := P) (C := C) (H := H) (d := d) (t := t) (p := p) (af := af) (g := g) (xT := xT) (yT := yT) hx hy (by omega)
  rwa [show (n : Int) + 1 = ((n + 1 : Nat) : Int) by omega] at this
theorem VStep.remW (hx : ρ x = some (.v (.int k a))) (hy : ρ y = some (.v (.int k b))) (h : b ≠ 0) : VStep P C ⟨d, .binOp .rem xT x y yT, t, p, af, g⟩ ρ H (.v (.int k (a.tmod b))) H := .int2 hx hy fun _ => by simp [binOp, Op.intDiv, h]
theorem VStep.rem (hx : ρ x = some (.v (.int k a))) (hy : ρ y = some (.v (.int k b))) (h : 0 ≤ a ∧ 0 < b) : VStep P C ⟨d, .binOp .rem xT x y yT, t, p, af, g⟩ ρ H (.v (.int k (a % b))) H := by
  have := VStep.remW (P := P) (C := C) (H := H) (d := d) (t := t) (p := p) (af := af) (g := g) (xT := xT) (yT := yT) hx hy (by omega)
  rwa [Int.tmod_eq_emod_of_nonneg h.1] at this
theorem VStep.quoW (hx : ρ x = some (.v (.int k a))) (hy : ρ y = some (.v (.int k b))) (h : b ≠ 0) : VStep P C ⟨d, .binOp .quo xT x y yT, t, p, af, g⟩ ρ H (.v (.int k (k.wrap (a.tdiv b)))) H := .int2 hx hy fun _ => by simp [binOp, Op.intDiv, h]
theorem VStep.quo (hx : ρ x = some (iv a)) (hy : ρ y = some (iv b)) (h : 0 ≤ a ∧ 0 < b ∧ a ≤ 9223372036854775807) : VStep P C ⟨d, .binOp .quo xT x y yT, t, p, af, g⟩ ρ H (iv (a / b)) H := by
  have := VStep.quoW (P := P) (C := C) (H := H) (d := d) (t := t) (p := p) (af := af) (g := g) (xT := xT) (yT := yT) hx hy (by omega)
  rw [Int.tdiv_eq_ediv_of_nonneg h.1] at this
  have h1 : 0 ≤ a / b := Int.ediv_nonneg h.1 (by omega)
  have h2 : a / b ≤ a := Int.ediv_le_self _ h.1
  rwa [IntWalk.i64_in _ (by omega)] at this
/-- Sets of bits: '&', '|', '^', '&^' of two ints. -/
def bitsI (op : BinOp) (a b : Int) : Int :=
  match op with
  | .and => IntKind.i64.wrap (BitVec.ofInt 64 a &&& BitVec.ofInt 64 b).toNat
  | .or => IntKind.i64.wrap (BitVec.ofInt 64 a ||| BitVec.ofInt 64 b).toNat
  | .xor => IntKind.i64.wrap (BitVec.ofInt 64 a ^^^ BitVec.ofInt 64 b).toNat
  | _ => IntKind.i64.wrap (BitVec.ofInt 64 a &&& ~~~BitVec.ofInt 64 b).toNat
theorem VStep.and (hx : ρ x = some (iv a)) (hy : ρ y = some (iv b)) : VStep P C ⟨d, .binOp .and xT x y yT, t, p, af, g⟩ ρ H (iv (bitsI .and a b)) H := .int2 hx hy fun _ => rfl
theorem VStep.or (hx : ρ x = some (iv a)) (hy : ρ y = some (iv b)) : VStep P C ⟨d, .binOp .or xT x y yT, t, p, af, g⟩ ρ H (iv (bitsI .or a b)) H := .int2 hx hy fun _ => rfl
theorem VStep.xor (hx : ρ x = some (iv a)) (hy : ρ y = some (iv b)) : VStep P C ⟨d, .binOp .xor xT x y yT, t, p, af, g⟩ ρ H (iv (bitsI .xor a b)) H := .int2 hx hy fun _ => rfl
theorem VStep.andNot (hx : ρ x = some (iv a)) (hy : ρ y = some (iv b)) : VStep P C ⟨d, .binOp .andNot xT x y yT, t, p, af, g⟩ ρ H (iv (bitsI .andNot a b)) H := .int2 hx hy fun _ => rfl
theorem VStep.shl {k' : IntKind} (hx : ρ x = some (iv a)) (hy : ρ y = some (.v (.int k' b))) (h : 0 ≤ b) : VStep P C ⟨d, .binOp .shl xT x y yT, t, p, af, g⟩ ρ H (iv (IntKind.i64.wrap (a * 2 ^ (min b.toNat 64)))) H :=
  .bin hx hy (fun w => eqGuard_int w) fun _ => by simp [binOp, Op.shift, IntKind.bits, show ¬ b < 0 by omega]
theorem VStep.shr {k' : IntKind} (hx : ρ x = some (iv a)) (hy : ρ y = some (.v (.int k' b))) (h : 0 ≤ b) : VStep P C ⟨d, .binOp .shr xT x y yT, t, p, af, g⟩ ρ H (iv (a.fdiv (2 ^ (min b.toNat 64)))) H :=
  .bin hx hy (fun w => eqGuard_int w) fun _ => by simp [binOp, Op.shift, IntKind.bits, show ¬ b < 0 by omega]
end

/-! ### Booleans and errors held together -/

theorem run_equal_bool {xT : TypeId} (hT : P.underlying xT = some .bool) (a b : Bool) (w : World) : (Op.equal xT (.bool a) (.bool b)).run P w = .ok (a == b) w := by
  have h : ∀ d : Nat, (Op.equalIn (d + 1) xT (.bool a) (.bool b)).run P w = .ok (a == b) w := fun d => by simp [Op.equalIn, run_underlying hT]
  exact h 9999
theorem VStep.eqlB {xT yT : TypeId} {x y : Operand} {a b : Bool} (hx : ρ x = some (bv a)) (hy : ρ y = some (bv b)) (hT : P.underlying xT = some .bool) : VStep P C ⟨d, .binOp .eql xT x y yT, t, p, af, g⟩ ρ H (bv (a == b)) H :=
  .bin hx hy (fun _ => by simp [eqGuard]) fun w => by simp only [binOp]; simp [run_equal_bool hT]
theorem VStep.neqB {xT yT : TypeId} {x y : Operand} {a b : Bool} (hx : ρ x = some (bv a)) (hy : ρ y = some (bv b)) (hT : P.underlying xT = some .bool) : VStep P C ⟨d, .binOp .neq xT x y yT, t, p, af, g⟩ ρ H (bv (a != b)) H :=
  .bin hx hy (fun _ => by simp [eqGuard]) fun w => by simp only [binOp]; simp [run_equal_bool hT, bne]

theorem run_equal_errV {xT T : TypeId} {ms : Array (String × TypeId)} (hT : P.underlying xT = some (.interface ms)) (e : Int) (w : World) : (Op.equal xT (errV T e) .nilIface).run P w = .ok (decide (e = 0)) w := by
  have h : ∀ d : Nat, (Op.equalIn (d + 1) xT (errV T e) .nilIface).run P w = .ok (decide (e = 0)) w := fun d => by
    unfold errV
    split <;> rename_i h <;> simp [Op.equalIn, run_underlying hT, h]
  exact h 9999
theorem eqGuard_errV {op : BinOp} {xT T : TypeId} {x : Operand} {e : Int} (w : World) : (eqGuard op xT x (.const .nilIface) (errV T e) .nilIface).run P w = .ok () w := by
  unfold errV
  split <;> cases op <;> simp [eqGuard]
theorem binOp_errV_eql {xT T : TypeId} (e : Int) : binOp .eql xT (errV T e) .nilIface = (do pure (.bool (← Op.equal xT (errV T e) .nilIface))) := by unfold errV; split <;> rfl
theorem binOp_errV_neq {xT T : TypeId} (e : Int) : binOp .neq xT (errV T e) .nilIface = (do pure (.bool (!(← Op.equal xT (errV T e) .nilIface)))) := by unfold errV; split <;> rfl
theorem VStep.eqlE {xT yT T : TypeId} {x : Operand} {e : Int} {ms : Array (String × TypeId)} (hx : ρ x = some (er T e)) (hc : ρ (.const .nilIface) = some (.v .nilIface)) (hT : P.underlying xT = some (.interface ms)) :
    VStep P C ⟨d, .binOp .eql xT x (.const .nilIface) yT, t, p, af, g⟩ ρ H (bv (decide (e = 0))) H :=
  .bin hx hc (fun w => eqGuard_errV w) fun w => by rw [binOp_errV_eql]; simp [run_equal_errV hT]
theorem VStep.neqE {xT yT T : TypeId} {x : Operand} {e : Int} {ms : Array (String × TypeId)} (hx : ρ x = some (er T e)) (hc : ρ (.const .nilIface) = some (.v .nilIface)) (hT : P.underlying xT = some (.interface ms)) :
    VStep P C ⟨d, .binOp .neq xT x (.const .nilIface) yT, t, p, af, g⟩ ρ H (bv (decide (e ≠ 0))) H :=
  .bin hx hc (fun w => eqGuard_errV w) fun w => by rw [binOp_errV_neq]; simp [run_equal_errV hT]

theorem VStep.mkIface {xT : TypeId} {x : Operand} {u : Value} (hx : ρ x = some (.v u)) (hT : P.concrete xT = true) : VStep P C ⟨d, .makeInterface xT x, t, p, af, g⟩ ρ H (.v (.iface xT u)) H :=
  .same fun σ w V F _ h => ⟨.iface xT u, by
    have := VRep.v_iff.1 (h x (by simp [Op.operands]) _ hx)
    simp [execOp, this, run_makeInterface w xT u hT], VRep.v_iff.2 rfl⟩
theorem VStep.mkErr {xT : TypeId} {x : Operand} {n : Int} (hx : ρ x = some (iv n)) (hT : P.concrete xT = true) (hn : n ≠ 0) : VStep P C ⟨d, .makeInterface xT x, t, p, af, g⟩ ρ H (er xT n) H := by
  have := VStep.mkIface (P := P) (C := C) (H := H) (d := d) (t := t) (p := p) (af := af) (g := g) hx hT
  simpa only [er, errV, if_neg hn] using this
theorem VStep.convert {s q : TypeId} {x : Operand} {k k' : IntKind} {n : Int} {dd : TypeDesc} (hx : ρ x = some (.v (.int k n))) (hs : P.underlying s = some dd) (hq : P.underlying q = some (.int k')) : VStep P C ⟨d, .convert s q x, t, p, af, g⟩ ρ H (.v (.int k' (k'.wrap n))) H :=
  .same fun σ w V F _ h => ⟨.int k' (k'.wrap n), by
    have := VRep.v_iff.1 (h x (by simp [Op.operands]) _ hx)
    simp [execOp, this, Go.convert, run_underlying hs, run_underlying hq, Conv.intToInt], VRep.v_iff.2 rfl⟩

theorem VStep.extract {x : Operand} {l : List AV} {i : Nat} {a : AV} (hx : ρ x = some (.tup l)) (hi : l[i]? = some a) : VStep P C ⟨d, .extract x i, t, p, af, g⟩ ρ H a H :=
  .same fun σ w V F _ h => by
    have h1 := h x (by simp [Op.operands]) _ hx
    unfold VRep at h1
    obtain ⟨us, hu, hus⟩ := h1
    obtain ⟨y, hy, hr⟩ := hus.get i a hi
    exact ⟨y, by
      have : us[i]? = some y := by simpa using hy
      simp [execOp, hu, Instr.extract, this], hr⟩

theorem VStep.nilCheckP {x : Operand} {i c : Nat} (hx : ρ x = some (.op i c)) : VStep P C ⟨d, .nilCheck x, t, p, af, g⟩ ρ H (.op i c) H :=
  .same fun σ w V F _ h => by
    have h1 := h x (by simp [Op.operands]) _ hx
    have h2 := h1
    unfold VRep at h2
    obtain ⟨ad, _, hu⟩ := h2
    exact ⟨σ x, by simp [execOp, hu], h1⟩
theorem VStep.nilCheckR {x : Operand} {cs : List AV} {c : Nat} (hx : ρ x = some (.rp cs c)) : VStep P C ⟨d, .nilCheck x, t, p, af, g⟩ ρ H (.rp cs c) H :=
  .same fun σ w V F _ h => by
    have h1 := h x (by simp [Op.operands]) _ hx
    have h2 := h1
    unfold VRep at h2
    obtain ⟨ad, _, hu, _⟩ := h2
    exact ⟨σ x, by simp [execOp, hu], h1⟩

/-! ### Structs and arrays as values -/

def ScalT (P : Program) (T : TypeId) : Prop := ∃ dd, P.underlying T = some dd ∧ (match dd with | .struct _ | .array _ _ => false | _ => true) = true
theorem run_isAgg_scal {P : Program} {T : TypeId} (h : ScalT P T) (w : World) : (isAgg T).run P w = .ok false w := by
  obtain ⟨dd, h1, h2⟩ := h
  simp only [isAgg, Sem.run_bind, run_underlying h1, Result.andThen_ok]
  cases dd <;> simp_all
theorem part_one {T : TypeId} (hT : ScalT P T) {us : Array Value} {off : Nat} {u : Value} (hu : us[off]? = some u) (w : World) : (part T us off).run P w = .ok u w := by
  simp [part, run_isAgg_scal hT, hu]

/-! ### Calls -/

theorem evs_get : ∀ {l : List Operand} {avs : List AV}, evs ρ l = some avs → ∀ {ok : Nat → Prop} {w : World} {V : List Value} {σ : Operand → Value}, (∀ x ∈ l, ∀ b, ρ x = some b → VRep ok w V b (σ x)) → VReps ok w V avs (l.map σ)
  | [], avs, h, _, _, _, _, _ => by cases h; unfold VReps; rfl
  | x :: l, avs, h, ok, w, V, σ, hσ => by
    simp only [evs] at h
    cases h1 : ρ x with
    | none => rw [h1] at h; cases h
    | some a =>
      rw [h1] at h
      simp only at h
      cases h2 : evs ρ l with
      | none => rw [h2] at h; cases h
      | some r =>
        rw [h2] at h
        cases h
        simp only [List.map_cons]
        unfold VReps
        exact ⟨σ x, l.map σ, rfl, hσ x (by simp) a h1, evs_get h2 fun y hy => hσ y (by simp [hy])⟩

theorem run_call {f : FuncId} {fn : Func} (hf : P.funcs[f]? = some fn) (hname : (fn.name == "runtime.NumGoroutine") = false) (hb : fn.body.isNone = false) (args : Array Value) (w : World) :
    (callFunc f args).run P w = .ok (.enter f args) w := by
  simp only [callFunc, Sem.run_bind, run_program, Result.andThen_ok, hf, hname, hb]
  rfl

mutual
/-- No part of it is an object of the caller's. -/
def AV.free : AV → Bool
  | .v _ => true
  | .rd _ cs => AV.frees cs
  | .rp cs _ => AV.frees cs
  | .ob _ => false
  | .op _ _ => false
  | .tup l => AV.frees l
  | .agg l => AV.frees l
  | .opt _ a => AV.free a
  | .top => true
  | .fn _ l => AV.frees l
def AV.frees : List AV → Bool
  | [] => true
  | a :: l => AV.free a && AV.frees l
end

section
variable {ok : Nat → Prop} {w : World} {V V' : List Value}
mutual
theorem VRep.anyV : ∀ (a : AV) (x : Value), a.free = true → VRep ok w V a x → VRep ok w V' a x
  | .v _, _, _, h => by unfold VRep at h ⊢; exact h
  | .rd _ cs, _, hf, h => by
    unfold VRep at h ⊢
    obtain ⟨hs, A, n, c, hx, hl, hn, hc, hr⟩ := h
    exact ⟨hs, A, n, c, hx, hl, hn, hc, fun hne => let ⟨ad, us, h1, h2, h3, h4⟩ := hr hne; ⟨ad, us, h1, h2, h3, VReps.anyV cs us (by simpa [AV.free] using hf) h4⟩⟩
  | .rp cs _, _, hf, h => by
    unfold VRep at h ⊢
    obtain ⟨ad, us, h1, h2, h3, h4⟩ := h
    exact ⟨ad, us, h1, h2, h3, VReps.anyV cs us (by simpa [AV.free] using hf) h4⟩
  | .ob _, _, hf, _ => by simp [AV.free] at hf
  | .op _ _, _, hf, _ => by simp [AV.free] at hf
  | .tup l, _, hf, h => by
    unfold VRep at h ⊢
    obtain ⟨us, h1, h2⟩ := h
    exact ⟨us, h1, VReps.anyV l _ (by simpa [AV.free] using hf) h2⟩
  | .agg l, _, hf, h => by
    unfold VRep at h ⊢
    obtain ⟨us, h1, h2⟩ := h
    exact ⟨us, h1, VReps.anyV l _ (by simpa [AV.free] using hf) h2⟩
  | .opt _ a, _, hf, h => by
    unfold VRep at h ⊢
    exact fun hc => VRep.anyV a _ (by simpa [AV.free] using hf) (h hc)
  | .top, _, _, _ => by unfold VRep; trivial
  | .fn _ l, _, hf, h => by
    unfold VRep at h ⊢
    obtain ⟨us, h1, h2⟩ := h
    exact ⟨us, h1, VReps.anyV l _ (by simpa [AV.free] using hf) h2⟩
theorem VReps.anyV : ∀ (l : List AV) (us : List Value), AV.frees l = true → VReps ok w V l us → VReps ok w V' l us
  | [], _, _, h => by unfold VReps at h ⊢; exact h
  | a :: l, _, hf, h => by
    simp only [AV.frees, Bool.and_eq_true] at hf
    unfold VReps at h ⊢
    obtain ⟨u, r, h1, h2, h3⟩ := h
    exact ⟨u, r, h1, VRep.anyV a u hf.1 h2, VReps.anyV l r hf.2 h3⟩
end
end

theorem Mem.start (w : World) (X : Nat → Prop) (N : Nat) : Mem ⟨w, X, [], [], N⟩ [] [] [] w :=
  ⟨rfl, rfl, rfl, Nat.le_refl _, fun _ _ _ => rfl, rfl, rfl, fun i o x f h => by simp at h, fun i x h => by simp at h, fun i j f g b h => by simp at h, fun f h => by simp at h, fun i x h => by simp at h⟩

/-- A CALL OF A FUNCTION THAT WRITES NOTHING OF THE CALLER's. -/
theorem VStep.call {f : FuncId} {args : Array Operand} {ats : Array TypeId} {avs : List AV} {r : AV} (hf0 : ρ (.func f) = some (.v (.func (.func f) #[] #[]))) (hargs : evs ρ args.toList = some avs) (hfn : Lifts P f avs [] r []) (hfree : AV.frees avs = true) (hr : r.free = true) :
    VStep P C ⟨d, .call { callee := .value (.func f), args := args, argTypes := ats }, t, p, af, g⟩ ρ H r H := fun σ w V F m hρ => by
  have hσ : σ (.func f) = .func (.func f) #[] #[] := VRep.v_iff.1 (hρ (.func f) (by simp [Op.operands, Call.operands]) _ hf0)
  obtain ⟨⟨fn, hf, hname, hb⟩, hfn⟩ := hfn
  have hv : VReps (okB C w F) w V avs (args.toList.map σ) := evs_get hargs fun x hx b hb => hρ x (by simp [Op.operands, Call.operands]; exact .inr (by simpa using hx)) b hb
  have hv' : VReps (okB ⟨w, okB C w F, [], [], 0⟩ w []) w [] avs (args.map σ).toList := by
    rw [Array.toList_map]
    refine (hv.anyV avs _ hfree (V' := [])).ext (fun _ _ h => h) fun b hb => ⟨⟨.inl hb, hb.2.1, by simp⟩, rfl⟩
  refine .inr ⟨f, args.map σ, ?_, (hfn w (okB C w F) [] [] (args.map σ) (Mem.start w _ 0) hv').mono ?_⟩
  · simp only [execOp, resolve, hσ, Deferred.ofValue, invoke, Sem.run_bind, Sem.run_pure, Result.andThen_ok]
    simpa using run_call hf hname hb (args.map σ) w
  · rintro e w' ⟨u, rfl, V', F', m', e', hu⟩
    refine ⟨u, rfl, ?_⟩
    have hV0 : V' = [] := List.eq_nil_of_length_eq_zero (by rw [m'.lenV]; rfl)
    have hF0 : F' = [] := List.eq_nil_of_length_eq_zero (by rw [m'.lenF]; rfl)
    subst hV0 hF0
    obtain ⟨m2, e2⟩ := m.more m'.os m'.tape m'.output m'.size (fun b hb => m'.kept b hb (by simp))
    refine ⟨V, F, m2, e2, (hu.anyV r u hr (V' := V)).ext (fun _ _ h => h) fun b hb => ⟨?_, rfl⟩⟩
    obtain ⟨h1, h2, _⟩ := hb
    rcases h1 with h1 | h1
    · exact (e2.blk b h1).1
    · have hle : w.heap.size ≤ b := h1
      exact ⟨.inr (Nat.le_trans m.size hle), h2, fun f hf hbf => by have := (m.own f hf b hbf).1; omega⟩
end
end Go.Qw
