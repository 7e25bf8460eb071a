/-
  An abstract machine over the model's own code, part E: operations on memory that the call owns: slices that it makes, appends to and writes, boxes; and calls that are handed such memory. No program is named here.
-/
import Derived.Test.YtmeacgkhabnjlaaDoorQwD
import Derived.Great.BuildSlice
import Derived.Laws.OwnMore
set_option linter.unusedSimpArgs false
set_option linter.unusedVariables false
set_option linter.unusedSectionVars false
namespace Go.Qw
open Go.RowKit

def AppT (P : Program) (T e : TypeId) (size bytes : Nat) : Prop := P.underlying T = some (.slice e) ∧ ∃ (i : TypeInfo) (z : Value), P.info? e = some i ∧ i.zero = some z ∧ i.size = size ∧ i.bytes = bytes ∧ z.cells.size = size ∧ 0 < size

mutual
/-- It is held in one cell. -/
def AV.cell1 : AV → Bool
  | .v u => u.oneCell'
  | .rd _ _ => true
  | .rp _ _ => true
  | .ob _ => true
  | .op _ _ => true
  | .tup _ => false
  | .agg _ => false
  | .opt _ _ => false
  | .top => false
  | .fn _ _ => true
end
def AV.cells1 (l : List AV) : Bool := l.all AV.cell1

theorem VRep.cell1 {ok : Nat → Prop} {w : World} {V : List Value} (hV : ∀ (i : Nat) (x : Value), V[i]? = some x → x.oneCell' = true) : ∀ {a : AV} {x : Value}, a.cell1 = true → VRep ok w V a x → x.oneCell' = true
  | .v u, _, h, hr => by unfold VRep at hr; subst hr; simpa [AV.cell1] using h
  | .rd _ _, _, _, hr => by unfold VRep at hr; obtain ⟨_, A, n, c, rfl, _⟩ := hr; rfl
  | .rp _ _, _, _, hr => by unfold VRep at hr; obtain ⟨ad, us, rfl, _⟩ := hr; rfl
  | .ob i, _, _, hr => by unfold VRep at hr; exact hV i _ hr
  | .op _ _, _, _, hr => by unfold VRep at hr; obtain ⟨ad, _, rfl⟩ := hr; rfl
  | .tup _, _, h, _ => by simp [AV.cell1] at h
  | .agg _, _, h, _ => by simp [AV.cell1] at h
  | .opt _ _, _, h, _ => by simp [AV.cell1] at h
  | .top, _, h, _ => by simp [AV.cell1] at h
  | .fn _ _, _, _, hr => by unfold VRep at hr; obtain ⟨us, rfl, _⟩ := hr; rfl
theorem VReps.cells1 {ok : Nat → Prop} {w : World} {V : List Value} (hV : ∀ (i : Nat) (x : Value), V[i]? = some x → x.oneCell' = true) {l : List AV} {us : List Value} (h : AV.cells1 l = true) (hr : VReps ok w V l us) : ∀ u ∈ us, u.oneCell' = true := by
  intro u hu
  obtain ⟨i, hi⟩ := List.getElem?_of_mem hu
  have hl := hr.length
  have hlt : i < l.length := by have := (List.getElem?_eq_some_iff.1 hi).1; omega
  obtain ⟨x, hx, hv⟩ := hr.get i l[i] (List.getElem?_eq_getElem hlt)
  rw [hi] at hx
  cases hx
  exact hv.cell1 hV (by simp only [AV.cells1, List.all_eq_true] at h; exact h _ (List.getElem_mem hlt))

section
variable {P : Program} {C : Ctx} {ρ : Operand → Option AV} {H : List Ob} {d : Option Nat} {t : TypeId} {p : String} {af : Array Edge} {g : Option (Nat × Bool)}

theorem Mem.get {V : List Value} {F : List (List Nat)} {w : World} (m : Mem C H V F w) {i : Nat} {o : Ob} (h : H[i]? = some o) : ∃ x f, V[i]? = some x ∧ F[i]? = some f ∧ ORep (okB C w F) w V x f o := by
  have hlt := (List.getElem?_eq_some_iff.1 h).1
  have h1 : i < V.length := by rw [m.lenV]; exact hlt
  have h2 : i < F.length := by rw [m.lenF]; exact hlt
  exact ⟨V[i], F[i], List.getElem?_eq_getElem h1, List.getElem?_eq_getElem h2, m.obs i o _ _ h (List.getElem?_eq_getElem h1) (List.getElem?_eq_getElem h2)⟩

/-! ### Lengths, addresses, loads -/

theorem row_form {ok : Nat → Prop} {w : World} {V : List Value} {x : Value} {f : List Nat} {e : TypeId} {size : Nat} {α : Type} {gg : α → List AV} {xs : List α} (hg : ∀ x, (gg x).length = size) (h : ORep ok w V x f (.row e size (xs.flatMap gg))) :
    0 < size ∧ ∃ us, w.ownsRow 0 e size x xs.length us ∧ VReps ok w V (xs.flatMap gg) us ∧ f = x.ownBlock.toList := by
  unfold ORep at h
  obtain ⟨h0, n, us, ho, hl, hr, hf⟩ := h
  rw [flatMap_len hg] at hl
  have := Nat.eq_of_mul_eq_mul_right h0 hl
  subst this
  exact ⟨h0, us, ho, hr, hf⟩

theorem VStep.lenO {α : Type} {gg : α → List AV} {size : Nat} {xs : List α} {x : Operand} {T e e' : TypeId} {i : Nat} (hx : ρ x = some (.ob i)) (hH : H[i]? = some (.row e' size (xs.flatMap gg))) (hg : ∀ x, (gg x).length = size) (hT : P.underlying T = some (.slice e)) :
    VStep P C ⟨d, .call { callee := .builtin .len, args := #[x], argTypes := #[T] }, t, p, af, g⟩ ρ H (iv (xs.length : Int)) H :=
  .same fun σ w V F m h => by
    obtain ⟨y, f, hy, hf, hr⟩ := m.get hH
    obtain ⟨h0, us, ho, hv, _⟩ := row_form hg hr
    have hu : σ x = y := by
      have := h x (by simp [Op.operands, Call.operands]) _ hx
      unfold VRep at this
      rw [hy] at this
      cases this
      rfl
    refine ⟨.int .i64 xs.length, ?_, VRep.v_iff.2 rfl⟩
    rcases ho.2 with ⟨e1, e2⟩ | ⟨gb, cap, cur, e1, _⟩ <;> simp [execOp, resolve, invoke, builtin, Builtin.len_, hu, e1, run_underlying hT, goInt]
    simp [e2]

theorem VStep.indexAddrOI {α : Type} {gg : α → List AV} {size : Nat} {xs : List α} {x j : Operand} {T e e' : TypeId} {i : Nat} {k : IntKind} {n : Int} (hx : ρ x = some (.ob i)) (hj : ρ j = some (.v (.int k n))) (hH : H[i]? = some (.row e' size (xs.flatMap gg)))
    (hg : ∀ x, (gg x).length = size) (hT : SliceT P T e size) (hb : 0 ≤ n ∧ n < xs.length) : VStep P C ⟨d, .indexAddr T x j, t, p, af, g⟩ ρ H (.op i (n.toNat * size + 0)) H :=
  .same fun σ w V F m h => by
    obtain ⟨y, f, hy, hf, hr⟩ := m.get hH
    obtain ⟨h0, us, ho, hv, _⟩ := row_form hg hr
    have hu : σ x = y := by
      have := h x (by simp [Op.operands]) _ hx
      unfold VRep at this
      rw [hy] at this
      cases this
      rfl
    have e2 := VRep.v_iff.1 (h j (by simp [Op.operands]) _ hj)
    rcases ho.2 with ⟨_, e3⟩ | ⟨gb, cap, cur, e1, _⟩
    · omega
    · refine ⟨.pointer (some ((⟨gb, 0, none⟩ : Addr).add (n.toNat * size))), by simp [execOp, Instr.indexAt, asIntOf, hu, e1, e2, run_underlying hT.1, run_sizeOf hT.2, hb], ?_⟩
      unfold VRep
      exact ⟨⟨gb, 0, none⟩, by rw [hy, e1]; rfl, rfl⟩
theorem VStep.indexAddrO {α : Type} {gg : α → List AV} {size : Nat} {xs : List α} {x j : Operand} {T e e' : TypeId} {i : Nat} {n : Nat} (hx : ρ x = some (.ob i)) (hj : ρ j = some (iv (n : Int))) (hH : H[i]? = some (.row e' size (xs.flatMap gg)))
    (hg : ∀ x, (gg x).length = size) (hT : SliceT P T e size) (hb : n < xs.length) : VStep P C ⟨d, .indexAddr T x j, t, p, af, g⟩ ρ H (.op i (n * size + 0)) H := by
  have := VStep.indexAddrOI (P := P) (C := C) (H := H) (d := d) (t := t) (p := p) (af := af) (g := g) hx hj hH hg hT (by omega)
  rwa [Int.toNat_natCast] at this
/-- '&b[i]' of an array in a box. -/
theorem VStep.indexAddrB {α : Type} {gg : α → List AV} {size : Nat} {xs : List α} {x j : Operand} {T e t' : TypeId} {i nn : Nat} {k : IntKind} {n : Int} (hx : ρ x = some (.op i (0 + 0))) (hj : ρ j = some (.v (.int k n))) (_hH : H[i]? = some (.box t' (xs.flatMap gg)))
    (hT : ArrayT P T e nn size) (hb : 0 ≤ n ∧ n < nn) : VStep P C ⟨d, .indexAddr T x j, t, p, af, g⟩ ρ H (.op i (n.toNat * size + 0)) H :=
  .same fun σ w V F m h => by
    have h1 := h x (by simp [Op.operands]) _ hx
    have e2 := VRep.v_iff.1 (h j (by simp [Op.operands]) _ hj)
    unfold VRep at h1
    obtain ⟨ad, hb2, hu⟩ := h1
    rw [Nat.add_zero, add_zero] at hu
    refine ⟨.pointer (some (ad.add (n.toNat * size))), by simp [execOp, Instr.indexAt, asIntOf, hu, e2, run_underlying hT.1, run_sizeOf hT.2, hb, Instr.sureAddr], ?_⟩
    unfold VRep
    exact ⟨ad, hb2, rfl⟩

/-- '&a[i]' of an array that is read, its elements of one cell. -/
theorem VStep.indexAddrR {cs : List AV} {c : Nat} {x j : Operand} {T e : TypeId} {nn : Nat} {k : IntKind} {n : Int} (hx : ρ x = some (.rp cs (c + 0))) (hj : ρ j = some (.v (.int k n))) (hT : ArrayT P T e nn 1) (hb : 0 ≤ n ∧ n < nn) : VStep P C ⟨d, .indexAddr T x j, t, p, af, g⟩ ρ H (.rp cs (c + n.toNat)) H :=
  .same fun σ w V F m h => by
    have h1 := h x (by simp [Op.operands]) _ hx
    have e2 := VRep.v_iff.1 (h j (by simp [Op.operands]) _ hj)
    unfold VRep at h1
    obtain ⟨ad, us, hu, ho, hcell, hus⟩ := h1
    rw [Nat.add_zero] at hu
    refine ⟨.pointer (some ((ad.add c).add (n.toNat * 1))), by simp [execOp, Instr.indexAt, asIntOf, hu, e2, run_underlying hT.1, run_sizeOf hT.2, hb, Instr.sureAddr], ?_⟩
    unfold VRep
    exact ⟨ad, us, by rw [Nat.mul_one, add_add], ho, hcell, hus⟩

theorem own_cells {ok : Nat → Prop} {w : World} {V : List Value} {x : Value} {f : List Nat} {e : TypeId} {size : Nat} {cs : List AV} (h : ORep ok w V x f (.row e size cs)) {ad : Addr} (hb : baseOf x = some ad) :
    ∃ us, VReps ok w V cs us ∧ ∀ (j : Nat) (u : Value), us[j]? = some u → w.cell? (ad.add j) = some u := by
  unfold ORep at h
  obtain ⟨_, n, us, ho, _, hr, _⟩ := h
  refine ⟨us, hr, fun j u hj => ?_⟩
  rcases ho.2 with ⟨e1, _⟩ | ⟨gb, cap, cur, e1, _⟩
  · subst e1; cases hb
  · have : x.ownBlock = some gb := by rw [e1]; rfl
    have e3 : ad = ⟨gb, 0, none⟩ := by rw [e1] at hb; simp [baseOf] at hb; exact hb.symm
    rw [e3]
    exact ho.cells this j u hj
theorem box_cells {ok : Nat → Prop} {w : World} {V : List Value} {x : Value} {f : List Nat} {T : TypeId} {cs : List AV} (h : ORep ok w V x f (.box T cs)) {ad : Addr} (hb : baseOf x = some ad) :
    ∃ us, VReps ok w V cs us ∧ ∀ (j : Nat) (u : Value), us[j]? = some u → w.cell? (ad.add j) = some u := by
  unfold ORep at h
  obtain ⟨gb, us, rfl, hg, hr, _⟩ := h
  refine ⟨us.toList, hr, fun j u hj => ?_⟩
  simp [baseOf] at hb
  subst hb
  have hadd : (⟨gb, 0, none⟩ : Addr).add j = ⟨gb, j, none⟩ := by unfold Addr.add; split <;> simp_all
  rw [hadd, cell_of_row _ _ j us T (0, 0) hg]
  simpa using hj

/-- The cells of an object: a row's or a box's. -/
def Ob.cells : Ob → Option (List AV)
  | .row _ _ cs => some cs
  | .box _ cs => some cs
  | _ => none
theorem ob_cells {ok : Nat → Prop} {w : World} {V : List Value} {x : Value} {f : List Nat} {o : Ob} {cs : List AV} (ho : o.cells = some cs) (h : ORep ok w V x f o) {ad : Addr} (hb : baseOf x = some ad) :
    ∃ us, VReps ok w V cs us ∧ ∀ (j : Nat) (u : Value), us[j]? = some u → w.cell? (ad.add j) = some u := by
  cases o with
  | row e size c => cases ho; exact own_cells h hb
  | box T c => cases ho; exact box_cells h hb
  | cust R => cases ho
  | dead => cases ho

theorem VStep.loadOAt {x : Operand} {T : TypeId} {i c : Nat} {o : Ob} {cs : List AV} {a : AV} (hx : ρ x = some (.op i c)) (hH : H[i]? = some o) (ho : o.cells = some cs) (hT : ScalT P T) (hc : cs[c]? = some a) : VStep P C ⟨d, .load T x, t, p, af, g⟩ ρ H a H :=
  .same fun σ w V F m h => by
    obtain ⟨y, f, hy, hf, hr⟩ := m.get hH
    have h1 := h x (by simp [Op.operands]) _ hx
    unfold VRep at h1
    obtain ⟨ad, hb, hu⟩ := h1
    rw [hy] at hb
    obtain ⟨us, hus, hcell⟩ := ob_cells ho hr hb
    obtain ⟨z, hz, hv⟩ := hus.get c a hc
    exact ⟨z, by simp [execOp, Instr.loadAt, Instr.sureAddr, hu, run_loadVar_one hT (hcell c z hz)], hv⟩
theorem VStep.loadO {α : Type} {gg : α → List AV} {size k j : Nat} {xs : List α} {x : Operand} {T : TypeId} {i : Nat} {o : Ob} {a : AV} (hx : ρ x = some (.op i (k * size + j))) (hH : H[i]? = some o) (ho : o.cells = some (xs.flatMap gg)) (hT : ScalT P T) (hg : ∀ x, (gg x).length = size)
    (hk : k < xs.length) (ha : (gg xs[k])[j]? = some a) : VStep P C ⟨d, .load T x, t, p, af, g⟩ ρ H a H :=
  .loadOAt hx hH ho hT (by
    rw [flatMap_get hg xs k hk j (by have := (List.getElem?_eq_some_iff.1 ha).1; rw [hg] at this; exact this)]
    exact ha)
theorem VStep.loadOAggAt {x : Operand} {T : TypeId} {i c size : Nat} {o : Ob} {cs l : List AV} (hx : ρ x = some (.op i c)) (hH : H[i]? = some o) (ho : o.cells = some cs) (hT : AggT P T size) (hl : l.length = size) (hc : (cs.drop c).take size = l) : VStep P C ⟨d, .load T x, t, p, af, g⟩ ρ H (.agg l) H :=
  .same fun σ w V F m h => by
    obtain ⟨y, f, hy, hf, hr⟩ := m.get hH
    have h1 := h x (by simp [Op.operands]) _ hx
    unfold VRep at h1
    obtain ⟨ad, hb, hu⟩ := h1
    rw [hy] at hb
    obtain ⟨us, hus, hcell⟩ := ob_cells ho hr hb
    have hv : VReps (okB C w F) w V l ((us.drop c).take size) := by rw [← hc]; exact (hus.drop c).take size
    have hlen : ((us.drop c).take size).length = size := by rw [hv.length, hl]
    refine ⟨.agg ((us.drop c).take size).toArray, ?_, ?_⟩
    · simp only [execOp, Instr.loadAt, Instr.sureAddr, hu, Sem.run_bind, Sem.run_pure, Result.andThen_ok]
      rw [run_loadVar_agg (by rw [hlen]; exact hT) fun j u hj => ?_]
      · rfl
      · rw [add_add]
        refine hcell _ u ?_
        rw [List.getElem?_take] at hj
        split at hj
        · rwa [List.getElem?_drop] at hj
        · cases hj
    · unfold VRep
      exact ⟨_, rfl, by simpa using hv⟩

/-! ### Stores -/

/-- An object's cells, turned. -/
def Ob.withCells (cs : List AV) : Ob → Ob
  | .row e size _ => .row e size cs
  | .box t _ => .box t cs
  | o => o

theorem run_storeVar {T : TypeId} {a : Addr} {us : List Value} {n : Nat} (hs : (P.info? T).map (·.size) = some n) (hn : us.length = n) {u : Value} (hu : u.cells.toList = us) (w : World) :
    (storeVar T a u).run P w = (storeCells a us).run P w := by
  have hsz : u.cells.size = n := by rw [← hn, ← hu]; simp
  simp [storeVar, run_sizeOf hs, hsz, hu]

/-- Cells are stored over an object's own, from its cell c on. -/
theorem store_ob {V : List Value} {F : List (List Nat)} {w : World} (m : Mem C H V F w) {i : Nat} {o : Ob} {cs : List AV} (hH : H[i]? = some o) (ho : o.cells = some cs) {x : Value} (hx : V[i]? = some x) {ad : Addr} (hb : baseOf x = some ad)
    {c : Nat} {l : List AV} {us : List Value} (hl : VReps (okB C w F) w V l us) (h1 : ∀ u ∈ us, u.oneCell' = true) (hc : c + l.length ≤ cs.length) :
    ∃ w' F', (storeCells (ad.add c) us).run P w = .ok () w' ∧ Mem C (H.set i (o.withCells (cs.take c ++ l ++ cs.drop (c + l.length)))) V F' w' ∧ Ext C V F w V F' w' := by
  obtain ⟨y, f, hy, hf, hr⟩ := m.get hH
  rw [hx] at hy
  cases hy
  have key : ∀ (gb : Nat) (cur : Array Value) (e : TypeId), w.heap[gb]? = some (.cells cur e (0, 0)) → f = [gb] → ad = ⟨gb, 0, none⟩ → cs.length ≤ cur.size →
      (∀ w' : World, Ext C V F w V F w' → (∀ b, b ≠ gb → w'.heap[b]? = w.heap[b]?) → w'.heap[gb]? = some (.cells (cur.toList.take c ++ us ++ cur.toList.drop (c + us.length)).toArray e (0, 0)) → ORep (okB C w' F) w' V x f (o.withCells (cs.take c ++ l ++ cs.drop (c + l.length)))) →
      ∃ w' F', (storeCells (ad.add c) us).run P w = .ok () w' ∧ Mem C (H.set i (o.withCells (cs.take c ++ l ++ cs.drop (c + l.length)))) V F' w' ∧ Ext C V F w V F' w' := by
    intro gb cur e hg hfe hade hcur hob
    have hadd : (⟨gb, 0, none⟩ : Addr).add c = ⟨gb, c, none⟩ := by unfold Addr.add; split <;> simp_all
    have hlen := hl.length
    have hst := run_storeCells_at P gb c e us 0 cur w hg (by omega) h1
    simp only [Nat.add_zero] at hst
    have hset : F.set i f = F := by
      apply List.ext_getElem?
      intro j
      rw [List.getElem?_set]
      split
      · rename_i hij
        subst hij
        rw [if_pos (List.getElem?_eq_some_iff.1 hf).1, hf]
      · rfl
    obtain ⟨m', e'⟩ := m.set (w' := w.setRow gb (cur.toList.take c ++ us ++ cur.toList.drop (c + us.length)).toArray) i (o.withCells (cs.take c ++ l ++ cs.drop (c + l.length))) f f x hx hf rfl rfl rfl (by simp)
      (fun b _ hn => setRow_other w gb b _ (by rw [hfe] at hn; simpa using hn)) (fun b hbf => ⟨by have := (m.own f (mem_of_get hf) b hbf).1; simpa using this, .inl hbf⟩)
      (fun he => by
        rw [hset] at he ⊢
        exact hob _ he (fun b hn => setRow_other w gb b _ hn) (setRow_heap w gb cur _ e (0, 0) hg))
    rw [hset] at m' e'
    exact ⟨_, F, by rw [hade, hadd]; exact hst, m', e'⟩
  have hlen := hl.length
  cases o with
  | row e size c0 =>
    cases ho
    unfold ORep at hr
    obtain ⟨h0, n, us0, hown, hn, hvr, hfe⟩ := hr
    rcases hown.2 with ⟨e1, _⟩ | ⟨gb, cap, cur, e1, hge, hg, hnc, hcm, hcs, htake⟩
    · subst e1; cases hb
    · subst e1
      simp only [baseOf, Option.some.injEq] at hb
      have hns : n * size ≤ cap * size := Nat.mul_le_mul_right _ hnc
      refine key gb cur e hg (by rw [hfe]; rfl) hb.symm (by rw [hn, hcs]; exact hns) fun w' he hot hgb => ?_
      unfold Ob.withCells ORep
      have hus0 := hvr.length
      refine ⟨h0, n, us0.take c ++ us ++ us0.drop (c + us.length), ⟨by simp only [List.length_append, List.length_take, List.length_drop]; omega, .inr ⟨gb, cap, _, rfl, hge, hgb, hnc, hcm, ?_, ?_⟩⟩, by simp only [List.length_append, List.length_take, List.length_drop]; omega, ?_, hfe⟩
      · simp only [List.size_toArray, List.length_append, List.length_take, List.length_drop, Array.length_toList]; omega
      · have hct : cur.toList = us0 ++ cur.toList.drop (n * size) := by rw [← htake, List.take_append_drop]
        have hl0 : us0.length = n * size := hown.1
        rw [List.toList_toArray, hct]
        have t1 : (us0 ++ cur.toList.drop (n * size)).take c = us0.take c := List.take_append_of_le_length (by omega)
        have t2 : (us0 ++ cur.toList.drop (n * size)).drop (c + us.length) = us0.drop (c + us.length) ++ cur.toList.drop (n * size) := List.drop_append_of_le_length (by omega)
        rw [t1, t2, ← List.append_assoc, List.take_append_of_le_length (by simp only [List.length_append, List.length_take, List.length_drop]; omega)]
        exact List.take_of_length_le (by simp only [List.length_append, List.length_take, List.length_drop]; omega)
      · rw [hlen]
        exact he.reps (((hvr.take c).app hl).app (hvr.drop _))
  | box T c0 =>
    cases ho
    unfold ORep at hr
    obtain ⟨gb, us0, rfl, hg, hvr, hfe⟩ := hr
    simp only [baseOf, Option.some.injEq] at hb
    have hus0 := hvr.length
    refine key gb us0 T hg hfe hb.symm (by simp at hus0; omega) fun w' he hot hgb => ?_
    unfold Ob.withCells ORep
    refine ⟨gb, _, rfl, hgb, ?_, hfe⟩
    rw [List.toList_toArray, hlen]
    exact he.reps (((hvr.take c).app hl).app (hvr.drop _))
  | cust R => cases ho
  | dead => cases ho

theorem list_set_eq {α : Type} (l : List α) (c : Nat) (a : α) (h : c < l.length) : l.take c ++ [a] ++ l.drop (c + 1) = l.set c a := by
  rw [List.set_eq_take_append_cons_drop, if_pos h]
  simp

/-- '*a = u', one cell of an object. -/
theorem VStep.storeAt {T : TypeId} {x y : Operand} {i c : Nat} {o : Ob} {cs : List AV} {a : AV} (hx : ρ x = some (.op i c)) (hy : ρ y = some a) (hH : H[i]? = some o) (ho : o.cells = some cs) (hT : (P.info? T).map (·.size) = some 1) (h1 : a.cell1 = true) (hc : c < cs.length) :
    VStep P C ⟨d, .store T x y, t, p, af, g⟩ ρ H (.v undef) (H.set i (o.withCells (cs.set c a))) := fun σ w V F m hρ => by
  have hxr := hρ x (by simp [Op.operands]) _ hx
  have hyr := hρ y (by simp [Op.operands]) _ hy
  unfold VRep at hxr
  obtain ⟨ad, hb, hu⟩ := hxr
  cases hV : V[i]? with
  | none => rw [hV] at hb; cases hb
  | some z =>
    rw [hV] at hb
    have hone := hyr.cell1 m.one h1
    have hl : VReps (okB C w F) w V [a] [σ y] := by
      unfold VReps VReps
      exact ⟨_, _, rfl, hyr, rfl⟩
    obtain ⟨w', F', hrun, m', e'⟩ := store_ob (P := P) m hH ho hV hb (c := c) hl (by simpa using hone) (by simp; omega)
    rw [List.length_singleton, list_set_eq _ _ _ hc] at m'
    refine .inl ⟨undef, w', .inr ⟨?_, rfl⟩, V, F', m', e', VRep.v_iff.2 rfl⟩
    have hcells : (σ y).cells.toList = [σ y] := by
      cases hq : σ y <;> rw [hq] at hone <;> first | rfl | (simp [Value.oneCell'] at hone)
    simp only [execOp, Instr.storeAt, Instr.sureAddr, hu, Sem.run_bind, Sem.run_pure, Result.andThen_ok]
    rw [run_storeVar hT rfl hcells, hrun]
    rfl
theorem VStep.storeO {α : Type} {gg : α → List AV} {size k j : Nat} {xs : List α} {T : TypeId} {x y : Operand} {i : Nat} {o : Ob} {a : AV} {q : α} (hx : ρ x = some (.op i (k * size + j))) (hy : ρ y = some a) (hH : H[i]? = some o) (ho : o.cells = some (xs.flatMap gg))
    (hT : (P.info? T).map (·.size) = some 1) (h1 : a.cell1 = true) (hg : ∀ x, (gg x).length = size) (hj : j < size) (hk : k < xs.length) (hq : gg q = (gg xs[k]).set j a) :
    VStep P C ⟨d, .store T x y, t, p, af, g⟩ ρ H (.v undef) (H.set i (o.withCells ((xs.set k q).flatMap gg))) := by
  have hlt : k * size + j < (xs.flatMap gg).length := by
    rw [flatMap_len hg]
    have : (k + 1) * size ≤ xs.length * size := Nat.mul_le_mul_right _ hk
    rw [Nat.succ_mul] at this
    omega
  have := VStep.storeAt (P := P) (C := C) (d := d) (t := t) (p := p) (af := af) (g := g) hx hy hH ho hT h1 hlt
  rwa [flatMap_set hg xs k hk j hj hq] at this
/-- A struct or an array is stored over cells of an object. -/
theorem VStep.storeAggAt {T : TypeId} {x y : Operand} {i c size : Nat} {o : Ob} {cs l : List AV} (hx : ρ x = some (.op i c)) (hy : ρ y = some (.agg l)) (hH : H[i]? = some o) (ho : o.cells = some cs) (hT : (P.info? T).map (·.size) = some size) (hl : l.length = size) (h1 : AV.cells1 l = true) (hc : c + size ≤ cs.length) :
    VStep P C ⟨d, .store T x y, t, p, af, g⟩ ρ H (.v undef) (H.set i (o.withCells (cs.take c ++ l ++ cs.drop (c + size)))) := fun σ w V F m hρ => by
  have hxr := hρ x (by simp [Op.operands]) _ hx
  have hyr := hρ y (by simp [Op.operands]) _ hy
  unfold VRep at hxr hyr
  obtain ⟨ad, hb, hu⟩ := hxr
  obtain ⟨us, hu2, hus⟩ := hyr
  cases hV : V[i]? with
  | none => rw [hV] at hb; cases hb
  | some z =>
    rw [hV] at hb
    obtain ⟨w', F', hrun, m', e'⟩ := store_ob (P := P) m hH ho hV hb (c := c) hus (hus.cells1 m.one h1) (by omega)
    rw [hl] at m'
    refine .inl ⟨undef, w', .inr ⟨?_, rfl⟩, V, F', m', e', VRep.v_iff.2 rfl⟩
    simp only [execOp, Instr.storeAt, Instr.sureAddr, hu, Sem.run_bind, Sem.run_pure, Result.andThen_ok]
    rw [run_storeVar hT (by rw [hus.length, hl]) (by rw [hu2]; rfl), hrun]
    rfl

/-! ### New objects -/

def ZeroT (P : Program) (T : TypeId) (cs : List AV) : Prop := ∃ (i : TypeInfo) (z : Value), P.info? T = some i ∧ i.zero = some z ∧ ∃ us : List Value, z.cells.toList = us ∧ cs = us.map .v

theorem VReps.vals {ok : Nat → Prop} {w : World} {V : List Value} : ∀ us : List Value, VReps ok w V (us.map .v) us
  | [] => by unfold VReps; rfl
  | u :: us => by unfold List.map VReps; exact ⟨u, us, rfl, VRep.v_iff.2 rfl, VReps.vals us⟩

/-- 'var x T', its address taken. -/
theorem VStep.alloc {T : TypeId} {cs : List AV} (hT : ZeroT P T cs) : VStep P C ⟨d, .alloc T, t, p, af, g⟩ ρ H (.op H.length (0 + 0)) (H ++ [.box T cs]) := fun σ w V F m _ => by
  obtain ⟨i, z, hi, hz, us, hus, rfl⟩ := hT
  obtain ⟨m', e'⟩ := m.push (w' := w.alloc (.cells z.cells T)) (.box T (us.map .v)) [w.heap.size] (.pointer (some ⟨w.heap.size, 0, none⟩)) rfl rfl rfl rfl (by simp) (fun b hb => Below.heap_alloc w _ b hb) (fun b hb => by simp at hb; subst hb; simp)
    (fun _ => by unfold ORep; exact ⟨_, _, rfl, heap_alloc_new w _, by rw [hus]; exact VReps.vals us, rfl⟩)
  refine .inl ⟨.pointer (some ⟨w.heap.size, 0, none⟩), _, .inl (by simp [execOp, Instr.alloc, zeroValue, typeInfo, hi, hz, newVar, newRow]), _, _, m', e', ?_⟩
  unfold VRep
  exact ⟨⟨w.heap.size, 0, none⟩, by simp [← m.lenV, baseOf], by simp [Addr.add]⟩
/-- A struct or an array laid in a box that will be written. -/
theorem VStep.box1 {x : Operand} {T : TypeId} {c : AV} (hx : ρ x = some c) (hc : c.cell1 = true) : VStep P C ⟨d, .box T x, t, p, af, g⟩ ρ H (.rp [c] (0 + 0)) H := fun σ w V F m hρ => by
  have h1 := hρ x (by simp [Op.operands]) _ hx
  have h2 := h1.cell1 m.one hc
  obtain ⟨m2, e2⟩ := m.alloc (.cells #[σ x] T)
  have hcells : (σ x).cells = #[σ x] := by cases hu : σ x <;> first | rfl | (rw [hu] at h2; simp [Value.oneCell'] at h2)
  refine .inl ⟨.pointer (some ⟨w.heap.size, 0, none⟩), w.alloc (.cells #[σ x] T), .inl (by simp [execOp, Instr.box, newVar, newRow, hcells]), V, F, m2, e2, ?_⟩
  unfold VRep
  refine ⟨⟨w.heap.size, 0, none⟩, [σ x], by simp [Addr.add], ⟨.inr m.size, by simp, fun f hf hb => by have := (m.own f hf _ hb).1; simp at this⟩, fun j u hj => ?_, ?_⟩
  · have hadd : (⟨w.heap.size, 0, none⟩ : Addr).add j = ⟨w.heap.size, j, none⟩ := by unfold Addr.add; split <;> simp_all
    rw [hadd, cell_of_row _ _ j #[σ x] T (0, 0) (World.alloc_heap_new w _)]
    simpa using hj
  · unfold VReps VReps
    exact ⟨_, _, rfl, h1.ext e2.car (fun b hb => e2.blk b hb) c (σ x), rfl⟩
theorem VStep.boxO {x : Operand} {T : TypeId} {l : List AV} (hx : ρ x = some (.agg l)) : VStep P C ⟨d, .box T x, t, p, af, g⟩ ρ H (.op H.length (0 + 0)) (H ++ [.box T l]) := fun σ w V F m hρ => by
  have h1 := hρ x (by simp [Op.operands]) _ hx
  unfold VRep at h1
  obtain ⟨us, hu, hus⟩ := h1
  obtain ⟨m', e'⟩ := m.push (w' := w.alloc (.cells us T)) (.box T l) [w.heap.size] (.pointer (some ⟨w.heap.size, 0, none⟩)) rfl rfl rfl rfl (by simp) (fun b hb => Below.heap_alloc w _ b hb) (fun b hb => by simp at hb; subst hb; simp)
    (fun e => by unfold ORep; exact ⟨_, _, rfl, heap_alloc_new w _, e.reps hus, rfl⟩)
  refine .inl ⟨.pointer (some ⟨w.heap.size, 0, none⟩), _, .inl (by simp [execOp, Instr.box, newVar, newRow, hu, Value.cells]), _, _, m', e', ?_⟩
  unfold VRep
  exact ⟨⟨w.heap.size, 0, none⟩, by simp [← m.lenV, baseOf], by simp [Addr.add]⟩

theorem madeCells_one (z : Value) (n : Nat) (hz : z.oneCell' = true) : (madeCells z.cells (n * 1)).toList = List.replicate n z := by
  have hc : z.cells = #[z] := by cases z <;> first | rfl | (simp [Value.oneCell'] at hz)
  apply List.ext_getElem?
  intro j
  simp only [madeCells, hc, Nat.mul_one, Array.toList_map, Array.toList_range, List.getElem?_map, List.getElem?_replicate]
  by_cases hj : j < n
  · simp [hj, Nat.mod_one]
  · simp [hj]
theorem rep_flat {α : Type} {gg : α → List AV} {q : α} {a : AV} (hq : gg q = [a]) : ∀ n, (List.replicate n q).flatMap gg = List.replicate n a
  | 0 => rfl
  | n + 1 => by rw [List.replicate_succ, List.flatMap_cons, hq, rep_flat hq n]; rfl
/-- 'make([]T, n)', its elements of one cell. -/
theorem VStep.make {α : Type} {gg : α → List AV} {T e : TypeId} {bytes : Nat} {x y : Operand} {k k' : IntKind} {n : Nat} {z : Value} (q : α) (hx : ρ x = some (.v (.int k (n : Int)))) (hy : ρ y = some (.v (.int k' (n : Int)))) (hT : AppT P T e 1 bytes) (hz : (P.info? e).bind (·.zero) = some z) (hz1 : z.oneCell' = true) (hq : gg q = [.v z]) (hb : bytes * n ≤ 281474976710656) (hn : n ≤ maxLen) :
    VStep P C ⟨d, .makeSlice T x y, t, p, af, g⟩ ρ H (.ob H.length) (H ++ [.row e 1 ((List.replicate n q).flatMap gg)]) := fun σ w V F m hρ => by
  obtain ⟨hTu, i, z', hi, hz', hsize, hbytes, hcs, _⟩ := hT
  rw [hi] at hz
  simp only [Option.bind_some] at hz
  rw [hz'] at hz
  cases hz
  have e1 := VRep.v_iff.1 (hρ x (by simp [Op.operands]) _ hx)
  have e2 := VRep.v_iff.1 (hρ y (by simp [Op.operands]) _ hy)
  obtain ⟨w', hrun, hown, hgrow⟩ := run_make_full (P := P) w 0 T e i z 1 hTu hi hz' hsize k k' n (by rw [hbytes]; exact hb) hn (Nat.zero_le _)
  have hmap : (List.replicate n q).flatMap gg = (List.replicate n z).map .v := by rw [rep_flat hq, List.map_replicate]
  obtain ⟨m', e'⟩ := m.push (w' := w') (.row e 1 ((List.replicate n q).flatMap gg)) [w.heap.size] (.slice (some ⟨w.heap.size, 0, none⟩) n n) rfl hgrow.os hgrow.tape hgrow.output hgrow.size (fun b hb => hgrow.block b hb (by simp))
    (fun b hb => by
      simp at hb
      subst hb
      exact ⟨(hown.lt _ rfl).2, Nat.le_refl _⟩)
    (fun _ => by
      unfold ORep
      refine ⟨by omega, n, _, hown, by rw [hmap]; simp, ?_, rfl⟩
      rw [madeCells_one z n hz1, hmap]
      exact VReps.vals _)
  refine .inl ⟨.slice (some ⟨w.heap.size, 0, none⟩) n n, w', .inl (by simp [execOp, e1, e2, hrun]), _, _, m', e', ?_⟩
  unfold VRep
  simp [← m.lenV]

/-! ### A slice's literal -/

def AV.cellsL : AV → List AV
  | .agg l => l
  | a => [a]
theorem VRep.cellsL {ok : Nat → Prop} {w : World} {V : List Value} (hV : ∀ (i : Nat) (x : Value), V[i]? = some x → x.oneCell' = true) {a : AV} {x : Value} (h : VRep ok w V a x) (h1 : AV.cells1 a.cellsL = true) : VReps ok w V a.cellsL x.cells.toList := by
  have one : ∀ b : AV, b.cell1 = true → VRep ok w V b x → VReps ok w V [b] x.cells.toList := fun b hb hr => by
    have hx := hr.cell1 hV hb
    have : x.cells.toList = [x] := by cases x <;> first | rfl | (simp [Value.oneCell'] at hx)
    rw [this]
    unfold VReps VReps
    exact ⟨x, [], rfl, hr, rfl⟩
  cases a with
  | agg l =>
    unfold VRep at h
    obtain ⟨us, rfl, hus⟩ := h
    exact hus
  | v u => exact one _ (by simpa [AV.cells1, AV.cellsL] using h1) h
  | rd n cs => exact one _ rfl h
  | rp cs c => exact one _ rfl h
  | ob i => exact one _ rfl h
  | op i c => exact one _ rfl h
  | tup l => simp [AV.cells1, AV.cellsL, AV.cell1] at h1
  | opt b a => simp [AV.cells1, AV.cellsL, AV.cell1] at h1
  | top => simp [AV.cells1, AV.cellsL, AV.cell1] at h1
  | fn f l => exact one _ rfl h
theorem VReps.flat {ok : Nat → Prop} {w : World} {V : List Value} (hV : ∀ (i : Nat) (x : Value), V[i]? = some x → x.oneCell' = true) : ∀ {l : List AV} {us : List Value}, VReps ok w V l us → AV.cells1 (l.flatMap AV.cellsL) = true → VReps ok w V (l.flatMap AV.cellsL) (us.flatMap fun u => u.cells.toList)
  | [], _, h, _ => by unfold VReps at h; subst h; unfold List.flatMap; simp; unfold VReps; rfl
  | a :: l, _, h, h1 => by
    unfold VReps at h
    obtain ⟨u, r, rfl, h2, h3⟩ := h
    rw [List.flatMap_cons, AV.cells1, List.all_append, Bool.and_eq_true] at h1
    rw [List.flatMap_cons, List.flatMap_cons]
    exact (h2.cellsL hV h1.1).app (VReps.flat hV h3 h1.2)

theorem sum_const {α : Type} (c : Nat) : ∀ l : List α, (l.map fun _ => c).sum = l.length * c
  | [] => by simp
  | _ :: l => by simp [sum_const c l, Nat.succ_mul]; omega
/-- '[]T{x, y, ..}', every place written; it is only read, or appended to once more ('Full'). -/
theorem buildCore {T e : TypeId} {size bytes n : Nat} {parts : Array (Nat × Operand)} {avs cs : List AV} (hargs : evs ρ (parts.toList.map (·.2)) = some avs) (hidx : parts.toList.map (·.1) = List.range n) (hT : AppT P T e size bytes) (hcs : avs.flatMap AV.cellsL = cs) (h1 : AV.cells1 cs = true)
    (hsz : ∀ a ∈ avs, a.cellsL.length = size) (hn : 0 < n ∧ n ≤ 65536 ∧ n * size ≤ 16777216) {V : List Value} {F : List (List Nat)} {w : World} {σ : Operand → Value} (m : Mem C H V F w) (hρ : ∀ x ∈ (Op.buildSlice T n parts).operands, ∀ b, ρ x = some b → VRep (okB C w F) w V b (σ x)) :
    ∃ r : Array Value, 0 < size ∧ r.size = n * size ∧ cs.length = n * size ∧ VReps (okB C w F) w V cs r.toList ∧ (execOp σ ⟨d, .buildSlice T n parts, t, p, af, g⟩).run P w = .ok (.value (.slice (some ⟨w.heap.size, 0, none⟩) n n)) (w.alloc (.cells r e)) := by
  obtain ⟨hTu, i, z, hi, hz, hsize, hbytes, hzs, h0⟩ := hT
  subst hsize
  have hv := evs_get hargs fun x hx b hb => hρ x (by simpa [Op.operands] using hx) b hb
  have hlen : avs.length = n := by
    have h2 := hv.length
    have h3 := congrArg List.length hidx
    simp at h2 h3
    omega
  have hus : ∀ u ∈ parts.toList.map (fun x => σ x.2), u.cells.size = i.size := by
    intro u hu
    obtain ⟨j, hj⟩ := List.getElem?_of_mem hu
    have hj' : ((parts.toList.map (·.2)).map σ)[j]? = some u := by rw [List.map_map]; exact hj
    have hlt : j < avs.length := by have := (List.getElem?_eq_some_iff.1 hj').1; rw [hv.length] at this; exact this
    obtain ⟨y, hy, hr⟩ := hv.get j avs[j] (List.getElem?_eq_getElem hlt)
    rw [hj'] at hy
    cases hy
    have hmem : avs[j] ∈ avs := List.getElem_mem hlt
    have hc1 : AV.cells1 avs[j].cellsL = true := by
      rw [← hcs] at h1
      simp only [AV.cells1, List.all_eq_true] at h1 ⊢
      exact fun b hb => h1 b (List.mem_flatMap.2 ⟨_, hmem, hb⟩)
    have := (hr.cellsL m.one hc1).length
    rw [hsz _ hmem] at this
    simpa using this
  have hpl : (parts.map fun (j, x) => (j, σ x)).toList = ((parts.toList.map fun x => σ x.2).zipIdx 0).map fun x => (x.2, x.1) := by
    apply List.ext_getElem?
    intro j
    rw [Array.toList_map, List.getElem?_map, List.getElem?_map, List.getElem?_zipIdx, List.getElem?_map]
    cases hj : parts.toList[j]? with
    | none => rfl
    | some q =>
      have h3 : (parts.toList.map (·.1))[j]? = some q.1 := by rw [List.getElem?_map, hj]; rfl
      rw [hidx, List.getElem?_range (by have := (List.getElem?_eq_some_iff.1 hj).1; have h4 := congrArg List.length hidx; simp at h4 this; omega)] at h3
      simp at h3
      simp [h3]
  obtain ⟨r, hfill, hrsz, hrk⟩ := Great.fill_dense h0 (parts.toList.map fun x => σ x.2) 0 ((Array.range (n * i.size)).map (z.cells[· % z.cells.size]!)) hus (by have := congrArg List.length hidx; simp at this; simp [this])
  have hplen : parts.toList.length = n := by have := congrArg List.length hidx; simpa using this
  have hr : r.toList = (parts.toList.map fun x => σ x.2).flatMap fun u => u.cells.toList := by
    apply List.ext_getElem?
    intro k
    have hk := hrk k
    have hflen : ((parts.toList.map fun x => σ x.2).flatMap fun u => u.cells.toList).length = n * i.size := by
      rw [List.length_flatMap]
      have : ((parts.toList.map fun x => σ x.2).map fun u => u.cells.toList.length) = (parts.toList.map fun x => σ x.2).map fun _ => i.size := List.map_congr_left fun u hu => by simpa using hus u hu
      rw [this, sum_const, List.length_map, hplen]
    by_cases hkn : k < n * i.size
    · rw [if_pos (by simp [hplen]; omega)] at hk
      have hdiv : k / i.size < n := by rw [Nat.div_lt_iff_lt_mul h0]; exact hkn
      have hget : (parts.toList.map fun x => σ x.2)[k / i.size]? = some ((parts.toList.map fun x => σ x.2)[k / i.size]'(by simp [hplen]; exact hdiv)) := List.getElem?_eq_getElem _
      rw [Nat.sub_zero, hget, Option.bind_some] at hk
      have := flatMap_get' (fun u => u.cells.toList) i.size (parts.toList.map fun x => σ x.2) (fun u hu => by simpa using hus u hu) (k / i.size) (by simp [hplen]; exact hdiv) (k % i.size) (Nat.mod_lt _ h0)
      rw [Nat.mul_comm, Nat.div_add_mod] at this
      rw [this]
      simpa using hk
    · rw [List.getElem?_eq_none (by simp [hrsz]; omega), List.getElem?_eq_none (by rw [hflen]; omega)]
  have hcells : VReps (okB C w F) w V cs r.toList := by
    rw [hr, ← hcs]
    have := hv.flat m.one (by rw [hcs]; exact h1)
    rwa [List.map_map] at this
  refine ⟨r, h0, by simpa using hrsz, by rw [← hcells.length]; simp [hrsz], hcells, ?_⟩
  have := run_buildSlice w T e n (parts.map fun (j, x) => (j, σ x)) r i z hTu hi hz (by omega) (by have := Nat.mul_pos hn.1 h0; omega) (by rw [hpl]; exact hfill)
  simp [execOp, this]
theorem VStep.buildSlice {T e : TypeId} {size bytes n : Nat} {parts : Array (Nat × Operand)} {avs cs : List AV} (hargs : evs ρ (parts.toList.map (·.2)) = some avs) (hidx : parts.toList.map (·.1) = List.range n) (hT : AppT P T e size bytes) (hcs : avs.flatMap AV.cellsL = cs) (h1 : AV.cells1 cs = true)
    (hsz : ∀ a ∈ avs, a.cellsL.length = size) (hn : 0 < n ∧ n ≤ 65536 ∧ n * size ≤ 16777216) : VStep P C ⟨d, .buildSlice T n parts, t, p, af, g⟩ ρ H (.rd size cs) H := fun σ w V F m hρ => by
  obtain ⟨r, h0, hrsz, hcl, hcells, hrun⟩ := buildCore (P := P) (d := d) (t := t) (p := p) (af := af) (g := g) hargs hidx hT hcs h1 hsz hn m hρ
  obtain ⟨m', e'⟩ := m.alloc (.cells r e)
  refine .inl ⟨.slice (some ⟨w.heap.size, 0, none⟩) n n, w.alloc (.cells r e), .inl hrun, V, F, m', e', ?_⟩
  unfold VRep
  refine ⟨h0, _, n, n, rfl, hcl, Nat.le_refl _, by unfold maxLen; omega, fun _ => ⟨_, r.toList, rfl, ⟨.inr m.size, by simp, fun f hf hb => by have := (m.own f hf _ hb).1; simp at this⟩, fun j u hj => ?_, e'.reps hcells⟩⟩
  have hadd : (⟨w.heap.size, 0, none⟩ : Addr).add j = ⟨w.heap.size, j, none⟩ := by unfold Addr.add; split <;> simp_all
  rw [hadd, cell_of_row _ _ j r e (0, 0) (heap_alloc_new w _)]
  simpa using hj
/-- The literal as a row of the call's own. -/
theorem VStep.buildOwn {T e : TypeId} {size bytes n : Nat} {parts : Array (Nat × Operand)} {avs cs : List AV} (hargs : evs ρ (parts.toList.map (·.2)) = some avs) (hidx : parts.toList.map (·.1) = List.range n) (hT : AppT P T e size bytes) (hcs : avs.flatMap AV.cellsL = cs) (h1 : AV.cells1 cs = true)
    (hsz : ∀ a ∈ avs, a.cellsL.length = size) (hn : 0 < n ∧ n ≤ 65536 ∧ n * size ≤ 16777216) : VStep P C ⟨d, .buildSlice T n parts, t, p, af, g⟩ ρ H (.ob H.length) (H ++ [.row e size cs]) := fun σ w V F m hρ => by
  obtain ⟨r, h0, hrsz, hcl, hcells, hrun⟩ := buildCore (P := P) (d := d) (t := t) (p := p) (af := af) (g := g) hargs hidx hT hcs h1 hsz hn m hρ
  have hown : (w.alloc (.cells r e)).ownsRow 0 e size (.slice (some ⟨w.heap.size, 0, none⟩) n n) n r.toList := World.ownsRow_lit w r n (Nat.zero_le _) (by unfold maxLen; omega) hrsz
  obtain ⟨m', e'⟩ := m.push (w' := w.alloc (.cells r e)) (.row e size cs) [w.heap.size] (.slice (some ⟨w.heap.size, 0, none⟩) n n) rfl rfl rfl rfl (by simp) (fun b hb => Below.heap_alloc w _ b hb)
    (fun b hb => by
      simp at hb
      subst hb
      exact ⟨by simp, Nat.le_refl _⟩)
    (fun e' => by
      unfold ORep
      exact ⟨h0, n, _, hown, hcl, e'.reps hcells, rfl⟩)
  refine .inl ⟨.slice (some ⟨w.heap.size, 0, none⟩) n n, w.alloc (.cells r e), .inl hrun, _, _, m', e', ?_⟩
  unfold VRep
  simp [← m.lenV]

/-! ### append -/

theorem run_append_of_nil {w : World} {base : Nat} {T ty e : TypeId} {i : TypeInfo} {size : Nat} (ht : P.underlying T = some (.slice e)) (hi : P.info? e = some i) {v : Value} {n : Nat} {xs : List Value} (hown : w.ownsRow base e size v n xs) (c : Nat) :
    (Builtin.append_ #[T, T] ty #[v, .slice none 0 c]).run P w = .ok v w := by
  rcases hown.2 with ⟨rfl, rfl⟩ | ⟨g, cap, cur, rfl, _, _, hnc, _⟩
  · simp [Builtin.append_, run_underlying ht, sizeOf, typeInfo, hi, Builtin.lenOf, Builtin.firstCells]
  · simp [Builtin.append_, run_underlying ht, sizeOf, typeInfo, hi, Builtin.lenOf, Builtin.firstCells, hnc, storeCells]

theorem append_core {V : List Value} {F : List (List Nat)} {w : World} (m : Mem C H V F w) {T ty e : TypeId} {size bytes : Nat} (hT : AppT P T e size bytes) {v : Value} {n : Nat} {us : List Value} (hown : w.ownsRow 0 e size v n us) {y : Value} {cs : List AV} (hy : VRep (okB C w F) w V (.rd size cs) y)
    (h1 : AV.cells1 cs = true) (hb : (n * size + cs.length) * bytes ≤ 140737488355328 * size) (hn : n * size + cs.length ≤ maxLen) :
    ∃ q vs v' w', (Builtin.append_ #[T, T] ty #[v, y]).run P w = .ok v' w' ∧ cs.length = q * size ∧ VReps (okB C w F) w V cs vs ∧ w'.ownsRow 0 e size v' (n + q) (us ++ vs) ∧ w.grownBy w' v.ownBlock ∧ (v'.ownBlock = v.ownBlock ∨ v'.ownBlock = some w.heap.size) := by
  obtain ⟨hTu, i, z, hi, hz, hsize, hbytes, hzs, h0⟩ := hT
  unfold VRep at hy
  obtain ⟨_, A, q, c, rfl, hl, hqc, hcm, hr⟩ := hy
  have hsum : n + q ≤ maxLen := by
    have h2 : (n + q) * 1 ≤ (n + q) * size := Nat.mul_le_mul_left _ h0
    have h3 : (n + q) * size = n * size + cs.length := by rw [Nat.add_mul, ← hl]
    omega
  have hbb : (n + q) * bytes ≤ 140737488355328 := by
    rw [hl, ← Nat.add_mul, Nat.mul_right_comm] at hb
    exact Nat.le_of_mul_le_mul_right hb h0
  by_cases hcs : cs = []
  · subst hcs
    have hq0 : q = 0 := by
      rw [List.length_nil] at hl
      rcases Nat.eq_zero_or_pos q with h | h
      · exact h
      · have := Nat.mul_pos h h0
        omega
    subst hq0
    have hvs : VReps (okB C w F) w V [] [] := by unfold VReps; rfl
    cases A with
    | none => exact ⟨0, [], v, w, run_append_of_nil hTu hi hown c, by simp, hvs, by simpa using hown, ⟨rfl, rfl, rfl, Nat.le_refl _, fun _ _ _ => rfl⟩, .inl rfl⟩
    | some ad =>
      obtain ⟨v', w', hrun, h2, h3, _, h5⟩ := run_append_own_at (P := P) w 0 T ty e i z size bytes hTu hi hz hsize hbytes hzs h0 v n us hown ad 0 c [] (by simp) (by simp) (by simp) hsum hbb (Nat.zero_le _)
      exact ⟨0, [], v', w', hrun, by simp, hvs, h2, h3, h5⟩
  · obtain ⟨ad, vs, rfl, _, hcell, hvs⟩ := hr hcs
    obtain ⟨v', w', hrun, h2, h3, _, h5⟩ := run_append_own_at (P := P) w 0 T ty e i z size bytes hTu hi hz hsize hbytes hzs h0 v n us hown ad q c vs (by rw [hvs.length, hl]) hcell (hvs.cells1 m.one h1) hsum hbb (Nat.zero_le _)
    exact ⟨q, vs, v', w', hrun, hl, hvs, h2, h3, h5⟩

theorem own_one {w : World} {e : TypeId} {size n : Nat} {v : Value} {us : List Value} (h : w.ownsRow 0 e size v n us) : v.oneCell' = true := by
  rcases h.2 with ⟨rfl, _⟩ | ⟨g, cap, cur, rfl, _⟩ <;> rfl

/-- 'append(s, x...)', s the call's own. -/
theorem VStep.append {α : Type} {gg : α → List AV} {xs : List α} (ys : List α) {T e : TypeId} {size bytes i : Nat} {s x : Operand} {cs : List AV} (hs : ρ s = some (.ob i)) (hx : ρ x = some (.rd size cs)) (hH : H[i]? = some (.row e size (xs.flatMap gg))) (hT : AppT P T e size bytes) (hcs : cs = ys.flatMap gg)
    (hg : ∀ x, (gg x).length = size) (h1 : AV.cells1 cs = true) (hb : (xs.length + ys.length) * bytes ≤ 140737488355328) (hn : (xs.length + ys.length) * size ≤ maxLen) :
    VStep P C ⟨d, .call { callee := .builtin .append, args := #[s, x], argTypes := #[T, T] }, t, p, af, g⟩ ρ H (.ob H.length) (H.set i .dead ++ [.row e size ((xs ++ ys).flatMap gg)]) := fun σ w V F m hρ => by
  obtain ⟨y, f, hy, hf, hr⟩ := m.get hH
  obtain ⟨h0, us, ho, hv, hfe⟩ := row_form hg hr
  have hsr := hρ s (by simp [Op.operands, Call.operands]) _ hs
  unfold VRep at hsr
  rw [hy] at hsr
  cases hsr
  have hxr := hρ x (by simp [Op.operands, Call.operands]) _ hx
  subst hcs
  have hlen : xs.length * size + (ys.flatMap gg).length = (xs.length + ys.length) * size := by rw [flatMap_len hg, Nat.add_mul]
  obtain ⟨q, vs, v', w', hrun, hl, hvs, hown, hgrow, hblk⟩ := append_core (P := P) (ty := t) m hT ho hxr h1 (by rw [hlen, Nat.mul_right_comm]; exact Nat.mul_le_mul_right _ hb) (by rw [hlen]; exact hn)
  have hnew : ∀ b ∈ v'.ownBlock.toList, b < w'.heap.size ∧ (b ∈ f ∨ w.heap.size ≤ b) := by
    intro b hbm
    have hb' : v'.ownBlock = some b := by simpa using hbm
    refine ⟨(hown.lt b hb').2, ?_⟩
    rcases hblk with h | h
    · exact .inl (by rw [hfe, ← h, hb']; simp)
    · rw [hb'] at h; cases h; exact .inr (Nat.le_refl _)
  obtain ⟨m', _, e'⟩ := m.move (w' := w') i (.row e size ((xs ++ ys).flatMap gg)) f v'.ownBlock.toList v' (own_one hown) hf hgrow.os hgrow.tape hgrow.output hgrow.size
    (fun b hbl hbf => hgrow.block b hbl (fun h => hbf (by rw [hfe, ← h]; simp))) hnew
    (fun e' => by
      unfold ORep
      refine ⟨h0, xs.length + q, us ++ vs, hown, ?_, ?_, rfl⟩
      · rw [flatMap_len hg, List.length_append, Nat.add_mul, Nat.add_mul, ← hl, flatMap_len hg]
      · rw [List.flatMap_append]
        exact e'.reps (hv.app hvs))
  refine .inl ⟨v', w', .inl (by simp [execOp, resolve, invoke, builtin, hrun]), _, _, m', e', ?_⟩
  unfold VRep
  simp [← m.lenV]
/-- 'append(s, x)': one element more. -/
theorem VStep.append1 {α : Type} {gg : α → List AV} {xs : List α} {q : α} {T e : TypeId} {size bytes i : Nat} {s x : Operand} {cs : List AV} (hs : ρ s = some (.ob i)) (hx : ρ x = some (.rd size cs)) (hH : H[i]? = some (.row e size (xs.flatMap gg))) (hT : AppT P T e size bytes) (hq : gg q = cs)
    (hg : ∀ x, (gg x).length = size) (h1 : AV.cells1 cs = true) (hb : (xs.length + 1) * bytes ≤ 140737488355328) (hn : (xs.length + 1) * size ≤ maxLen) :
    VStep P C ⟨d, .call { callee := .builtin .append, args := #[s, x], argTypes := #[T, T] }, t, p, af, g⟩ ρ H (.ob H.length) (H.set i .dead ++ [.row e size ((xs ++ [q]).flatMap gg)]) :=
  .append [q] hs hx hH hT (by simp [hq]) hg h1 hb hn
/-- 'append(nil, x...)'. -/
theorem VStep.appendNil {α : Type} {gg : α → List AV} (ys : List α) {T e : TypeId} {size bytes : Nat} {s x : Operand} {cs : List AV} (hs : ρ s = some (.v (.slice none 0 0))) (hx : ρ x = some (.rd size cs)) (hT : AppT P T e size bytes) (hcs : cs = ys.flatMap gg)
    (hg : ∀ x, (gg x).length = size) (h1 : AV.cells1 cs = true) (hb : ys.length * bytes ≤ 140737488355328) (hn : ys.length * size ≤ maxLen) :
    VStep P C ⟨d, .call { callee := .builtin .append, args := #[s, x], argTypes := #[T, T] }, t, p, af, g⟩ ρ H (.ob H.length) (H ++ [.row e size (ys.flatMap gg)]) := fun σ w V F m hρ => by
  have hsr := VRep.v_iff.1 (hρ s (by simp [Op.operands, Call.operands]) _ hs)
  have hxr := hρ x (by simp [Op.operands, Call.operands]) _ hx
  subst hcs
  have h0 : 0 < size := by obtain ⟨_, i, z, _, _, _, _, _, h0⟩ := hT; exact h0
  have hlen : 0 * size + (ys.flatMap gg).length = ys.length * size := by rw [flatMap_len hg]; omega
  obtain ⟨q, vs, v', w', hrun, hl, hvs, hown, hgrow, hblk⟩ := append_core (P := P) (ty := t) m hT (World.ownsRow_nil w 0 e size) hxr h1 (by rw [hlen, Nat.mul_right_comm]; exact Nat.mul_le_mul_right _ hb) (by rw [hlen]; exact hn)
  obtain ⟨m', e'⟩ := m.push (w' := w') (.row e size (ys.flatMap gg)) v'.ownBlock.toList v' (own_one hown) hgrow.os hgrow.tape hgrow.output hgrow.size
    (fun b hbl => hgrow.block b hbl (by simp [Value.ownBlock]))
    (fun b hbm => by
      have hb' : v'.ownBlock = some b := by simpa using hbm
      refine ⟨(hown.lt b hb').2, ?_⟩
      rcases hblk with h | h
      · rw [hb'] at h; simp [Value.ownBlock] at h
      · rw [hb'] at h; cases h; exact Nat.le_refl _)
    (fun e' => by
      unfold ORep
      refine ⟨h0, 0 + q, [] ++ vs, hown, by rw [Nat.zero_add, hl], by rw [List.nil_append]; exact e'.reps hvs, rfl⟩)
  refine .inl ⟨v', w', .inl (by simp [execOp, resolve, invoke, builtin, hsr, hrun]), _, _, m', e', ?_⟩
  unfold VRep
  simp [← m.lenV]

/-! ### What is owned may be told otherwise -/

/-- A nil slice is an owned one without elements. -/
theorem Conv.nilRow {fr : Fr} {a : Nat} {e : TypeId} {size : Nat} (h : look fr a = some (.v (.slice none 0 0))) (hs : 0 < size) : Conv C ⟨fr, H⟩ ⟨(a, .ob H.length) :: fr, H ++ [.row e size []]⟩ := by
  rintro rd ac w ⟨V, F, m, hd, hsz, hf⟩
  obtain ⟨m', e'⟩ := m.push (w' := w) (.row e size []) [] (.slice none 0 0) rfl rfl rfl rfl (Nat.le_refl _) (fun _ _ => rfl) (fun b hb => by simp at hb)
    (fun _ => by
      unfold ORep
      exact ⟨hs, 0, [], World.ownsRow_nil w 0 e size, by simp, by unfold VReps; rfl, rfl⟩)
  refine ⟨_, _, m', hd.ext e', hsz, fun t av ht => ?_⟩
  rw [look_cons] at ht
  by_cases hat : a = t
  · subst hat
    rw [if_pos rfl] at ht
    cases ht
    obtain ⟨x, hx, hr⟩ := hf _ _ h
    unfold VRep at hr
    subst hr
    refine ⟨_, hx, ?_⟩
    unfold VRep
    simp [← m.lenV]
  · rw [if_neg hat] at ht
    exact (hf.ext e') t av ht
end
end Go.Qw
