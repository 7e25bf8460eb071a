/-
  A region that draws its order and has two operations that nothing orders and that both turn objects: walked once in each order of the two. No program is named here.
-/
import Derived.Test.YtkdihpajgmiolaaDoorQwM
set_option linter.unusedSimpArgs false
set_option linter.unusedVariables false
set_option linter.unusedSectionVars false
namespace Go.Qw
open Go.RowKit

def addEdge (x : Nat) : Nat → List Oper → List Oper
  | _, [] => []
  | 0, o :: r => { o with after := o.after.push ⟨x, .data⟩ } :: r
  | n + 1, o :: r => o :: addEdge x n r
def swI (a i : Nat) : Nat := if i = a then a + 1 else if i = a + 1 then a else i
def renE (a : Nat) (o : Oper) : Oper := { o with after := (o.after.toList.map fun e => { e with on := swI a e.on }).toArray }
def swapL : Nat → List Oper → List Oper
  | 0, x :: y :: r => y :: x :: r
  | n + 1, x :: r => x :: swapL n r
  | _, l => l
def twoA (a : Nat) (l : List Oper) : List Oper := addEdge a (a + 1) l
def twoB (a : Nat) (l : List Oper) : List Oper := (swapL a (addEdge (a + 1) a l)).map (renE a)

theorem addEdge_get (x : Nat) : ∀ (n : Nat) (l : List Oper) (i : Nat), (addEdge x n l)[i]? = (l[i]?).map fun o => if i = n then { o with after := o.after.push ⟨x, .data⟩ } else o
  | _, [], i => by simp [addEdge]
  | 0, o :: r, i => by
    cases i with
    | zero => simp [addEdge]
    | succ i => simp [addEdge]
  | n + 1, o :: r, i => by
    cases i with
    | zero => simp [addEdge]
    | succ i => simp [addEdge, addEdge_get x n r i]
theorem addEdge_len (x : Nat) : ∀ (n : Nat) (l : List Oper), (addEdge x n l).length = l.length
  | _, [] => by simp [addEdge]
  | 0, o :: r => rfl
  | n + 1, o :: r => by simp [addEdge, addEdge_len x n r]
theorem swapL_len : ∀ (n : Nat) (l : List Oper), (swapL n l).length = l.length
  | 0, [] => rfl
  | 0, [_] => rfl
  | 0, _ :: _ :: _ => rfl
  | n + 1, [] => rfl
  | n + 1, x :: r => by simp [swapL, swapL_len n r]
theorem swI_inv (a i : Nat) : swI a (swI a i) = i := by unfold swI; split <;> (try split) <;> (try split) <;> omega
theorem swI_lt {a n i : Nat} (h : a + 1 < n) (hi : i < n) : swI a i < n := by unfold swI; split <;> (try split) <;> omega
theorem swapL_get : ∀ (a : Nat) (l : List Oper) (i : Nat), a + 1 < l.length → (swapL a l)[swI a i]? = l[i]?
  | 0, x :: y :: r, i, _ => by
    unfold swI
    match i with
    | 0 => simp [swapL]
    | 1 => simp [swapL]
    | i + 2 => simp [swapL]
  | 0, [], i, h => by simp at h
  | 0, [_], i, h => by simp at h
  | n + 1, [], i, h => by simp at h
  | n + 1, x :: r, i, h => by
    cases i with
    | zero => simp [swI, swapL]
    | succ i =>
      have ih := swapL_get n r i (by simpa using h)
      have e : swI (n + 1) (i + 1) = swI n i + 1 := by unfold swI; split <;> (try split) <;> (try split) <;> (try split) <;> omega
      rw [e]
      simpa [swapL] using ih

/-- Operations that neither call nor range. -/
def simpleO : Op → Bool
  | .move _ => true
  | .assign _ => true
  | .indexAddr _ _ _ => true
  | .fieldAddr _ _ _ => true
  | .load _ _ => true
  | .store _ _ _ => true
  | .alloc _ => true
  | _ => false

section
variable {P : Program}
def PlainN (P : Program) (m : Sem Next) : Prop := ∀ w r w', m.run P w = .ok r w' → (∃ v, r = .value v) ∨ r = .skip
theorem PlainN.bind {α : Type} {m : Sem α} {f : α → Sem Next} (h : ∀ x, PlainN P (f x)) : PlainN P (m >>= f) := fun w r w' hr => by
  simp only [Sem.run_bind] at hr
  generalize m.run P w = q at hr
  cases q with
  | ok x w'' => exact h x _ _ _ hr
  | halt x y => cases hr
theorem PlainN.value (v : Value) : PlainN P (pure (.value v)) := fun w r w' hr => by
  simp only [Sem.run_pure] at hr
  cases hr
  exact .inl ⟨v, rfl⟩
theorem PlainN.skip : PlainN P (pure .skip) := fun w r w' hr => by
  simp only [Sem.run_pure] at hr
  cases hr
  exact .inr rfl
theorem simple_plain {o : Oper} (h : simpleO o.op = true) (σ : Operand → Value) : PlainN P (execOp σ o) := by
  unfold execOp
  cases ho : o.op <;> rw [ho] at h <;> first | (cases h; done) | skip
  all_goals dsimp only
  all_goals repeat' first | exact PlainN.value _ | exact PlainN.skip | (refine PlainN.bind fun _ => ?_)
theorem simple_noDefer {o : Oper} (h : simpleO o.op = true) : ∀ c, o.op ≠ .defer c := fun c e => by rw [e] at h; cases h

/-- Two walks of one such operation are one. -/
theorem wpIn_and {rd : Option Nat} {o : Oper} {a : Act} {w : World} {K1 K2 : Act → World → Prop} {Q : Exit → Act → World → Prop} (h : simpleO o.op = true) (h1 : o.wpIn (wideR rd) 0 P a w K1 Q) (h2 : o.wpIn (wideR rd) 0 P a w K2 Q) :
    o.wpIn (wideR rd) 0 P a w (fun a w => K1 a w ∧ K2 a w) Q := by
  refine ⟨h1.1, ?_⟩
  have g1 := h1.2
  have g2 := h2.2
  rw [semAt_plain (simple_noDefer h)] at g1 g2 ⊢
  cases hr : (execOp a.eval o).run P w with
  | ok r w' =>
    rw [hr] at g1 g2
    rcases simple_plain h a.eval w r w' hr with ⟨v, rfl⟩ | rfl
    · exact ⟨g1, g2⟩
    · exact ⟨g1, g2⟩
  | halt x y =>
    rw [hr] at g1
    cases x <;> exact g1

/-- 'ops'' is 'ops', renumbered by π, where y waits for x, too. -/
structure Sim (ops ops' : Array Oper) (π : Nat → Nat) (x y : Nat) : Prop where
  size : ops'.size = ops.size
  op : ∀ i o, ops[i]? = some o → ∃ af, ops'[π i]? = some { o with after := af } ∧
    (∀ e' ∈ af.toList, Region.binds .any e' = true → (∃ e ∈ o.after.toList, Region.binds .any e = true ∧ e'.on = π e.on) ∨ (i = y ∧ e'.on = π x)) ∧
    ∀ e ∈ o.after.toList, Region.binds .any e = true → ∃ e' ∈ af.toList, Region.binds .any e' = true ∧ e'.on = π e.on
  lt : ∀ i, i < ops.size → π i < ops.size
  inv : ∀ i, π (π i) = i
/-- What is listed, renumbered. -/
def LR (π : Nat → Nat) (n : Nat) (l l' : Array Bool) : Prop := l.size = n ∧ l'.size = n ∧ ∀ j, j < n → l'.getD (π j) false = l.getD j false

theorem getD_lt {l : Array Bool} {i : Nat} (h : i < l.size) : l.getD i true = l.getD i false := by
  simp only [Array.getD_eq_getD_getElem?, Array.getElem?_eq_getElem h, Option.getD_some]
theorem mem_ready {ops : Array Oper} {l : Array Bool} {i : Nat} (hl : l.size = ops.size) : i ∈ Region.ready .any ops l ↔ ∃ o, ops[i]? = some o ∧ l.getD i false = false ∧ ∀ e ∈ o.after.toList, Region.binds .any e = true → l.getD e.on false = true := by
  unfold Region.ready
  rw [List.mem_filter, List.mem_range]
  constructor
  · rintro ⟨h1, h2⟩
    rw [Bool.and_eq_true, Bool.not_eq_true', getD_lt (by omega)] at h2
    rw [Array.getElem?_eq_getElem h1] at h2
    refine ⟨_, Array.getElem?_eq_getElem h1, h2.1, fun e he hb => ?_⟩
    have h3 := h2.2
    simp only [Option.map_some, Option.getD_some] at h3
    have := Array.all_eq_true'.1 h3 e (by simpa using he)
    rw [hb] at this
    simpa using this
  · rintro ⟨o, ho, h1, h2⟩
    have hi := (Array.getElem?_eq_some_iff.1 ho).1
    refine ⟨hi, ?_⟩
    rw [getD_lt (by omega), h1, ho]
    simp only [Bool.not_false, Bool.true_and, Option.map_some, Option.getD_some]
    rw [Array.all_eq_true']
    intro e he
    cases hb : Region.binds .any e with
    | false => rfl
    | true => simpa using h2 e (by simpa using he) hb
theorem getD_size {l : Array Bool} {i : Nat} (h : l.getD i false = true) : i < l.size := by
  rcases Nat.lt_or_ge i l.size with h1 | h1
  · exact h1
  · simp only [Array.getD_eq_getD_getElem?] at h
    rw [Array.getElem?_eq_none h1] at h
    cases h
section
variable {ops ops' : Array Oper} {π : Nat → Nat} {x y : Nat} {l l' : Array Bool}
theorem LR.get (s : Sim ops ops' π x y) (h : LR π ops.size l l') {j : Nat} : l'.getD (π j) false = true ↔ l.getD j false = true := by
  constructor
  · intro hj
    have h1 := getD_size hj
    have h2 : j < ops.size := by have := s.lt (π j) (by rw [← h.2.1]; exact h1); rwa [s.inv] at this
    rwa [h.2.2 j h2] at hj
  · intro hj
    have h1 := getD_size hj
    rw [h.2.2 j (by rw [← h.1]; exact h1)]
    exact hj
theorem Sim.ready (s : Sim ops ops' π x y) (h : LR π ops.size l l') {i : Nat} (hi : i ∈ Region.ready .any ops l) (hy : i = y → l.getD x false = true) : π i ∈ Region.ready .any ops' l' := by
  rw [mem_ready h.1] at hi
  obtain ⟨o, ho, h1, h2⟩ := hi
  obtain ⟨af, g1, g2, g3⟩ := s.op i o ho
  rw [mem_ready (by rw [h.2.1, s.size])]
  refine ⟨_, g1, ?_, fun e he hb => ?_⟩
  · cases hc : l'.getD (π i) false with
    | false => rfl
    | true => rw [h.get s, h1] at hc; cases hc
  · rcases g2 e he hb with ⟨e0, k1, k2, k3⟩ | ⟨k1, k2⟩
    · rw [k3, h.get s]; exact h2 e0 k1 k2
    · rw [k2, h.get s]; exact hy k1
theorem Sim.back (s : Sim ops ops' π x y) (h : LR π ops.size l l') {k : Nat} (hk : k ∈ Region.ready .any ops' l') : π k ∈ Region.ready .any ops l := by
  rw [mem_ready (by rw [h.2.1, s.size])] at hk
  obtain ⟨o', ho', h1, h2⟩ := hk
  have hlt : π k < ops.size := s.lt k (by rw [← s.size]; exact (Array.getElem?_eq_some_iff.1 ho').1)
  obtain ⟨af, g1, g2, g3⟩ := s.op (π k) _ (Array.getElem?_eq_getElem hlt)
  rw [s.inv, ho'] at g1
  cases g1
  rw [mem_ready h.1]
  refine ⟨_, Array.getElem?_eq_getElem hlt, ?_, fun e he hb => ?_⟩
  · cases hc : l.getD (π k) false with
    | false => rfl
    | true => rw [← h.get s, s.inv, h1] at hc; cases hc
  · obtain ⟨e', k1, k2, k3⟩ := g3 e he hb
    have := h2 e' k1 k2
    rwa [k3, h.get s] at this
theorem LR.set (s : Sim ops ops' π x y) (h : LR π ops.size l l') {i : Nat} (hi : i < ops.size) : LR π ops.size (l.setIfInBounds i true) (l'.setIfInBounds (π i) true) := by
  refine ⟨by simp [h.1], by simp [h.2.1], fun j hj => ?_⟩
  have hp := s.lt i hi
  simp only [Array.getD_eq_getD_getElem?, Array.getElem?_setIfInBounds]
  by_cases hij : i = j
  · subst hij
    simp [h.1, h.2.1, hi, hp]
  · have : π i ≠ π j := fun e => hij (by rw [← s.inv i, e, s.inv])
    rw [if_neg hij, if_neg this]
    have := h.2.2 j hj
    simpa only [Array.getD_eq_getD_getElem?] using this
theorem Sim.opIn {rd : Option Nat} {Q : Exit → Act → World → Prop} {K : Act → World → Prop} {a : Act} {w : World} (s : Sim ops ops' π x y) (hg : ∀ (i : Nat) (o : Oper), ops[i]? = some o → simpleO o.op = true ∧ o.guard = none) {i : Nat} (hi : i < ops.size)
    (h : wpOpIn (wideR rd) 0 P ops' Q (π i) K a w) : wpOpIn (wideR rd) 0 P ops Q i K a w := by
  have ho : ops[i]? = some ops[i] := Array.getElem?_eq_getElem hi
  obtain ⟨af, g1, -, -⟩ := s.op i _ ho
  obtain ⟨g2, g3⟩ := hg i _ ho
  unfold wpOpIn at h ⊢
  rw [g1] at h
  rw [ho]
  simp only at h ⊢
  rw [if_pos (by simp [Region.wanted, g3])] at h ⊢
  exact h
theorem wpOpIn_and {rd : Option Nat} {Q : Exit → Act → World → Prop} {K1 K2 : Act → World → Prop} {a : Act} {w : World} (hg : ∀ (i : Nat) (o : Oper), ops[i]? = some o → simpleO o.op = true ∧ o.guard = none) {i : Nat}
    (h1 : wpOpIn (wideR rd) 0 P ops Q i K1 a w) (h2 : wpOpIn (wideR rd) 0 P ops Q i K2 a w) : wpOpIn (wideR rd) 0 P ops Q i (fun a w => K1 a w ∧ K2 a w) a w := by
  unfold wpOpIn at h1 h2 ⊢
  cases ho : ops[i]? with
  | none => rw [ho] at h1 h2; exact ⟨h1, h2⟩
  | some o =>
    obtain ⟨g2, g3⟩ := hg i o ho
    rw [ho] at h1 h2
    simp only at h1 h2 ⊢
    rw [if_pos (by simp [Region.wanted, g3])] at h1 h2 ⊢
    exact wpIn_and g2 h1 h2
end

theorem set_get {l : Array Bool} {i j : Nat} (hi : i < l.size) : (l.setIfInBounds i true).getD j false = true ↔ (j = i ∨ l.getD j false = true) := by
  simp only [Array.getD_eq_getD_getElem?, Array.getElem?_setIfInBounds]
  by_cases hk : i = j
  · subst hk; simp [hi]
  · rw [if_neg hk]
    constructor
    · exact .inr
    · rintro (h | h)
      · exact absurd h.symm hk
      · exact h

theorem any_two {rd : Option Nat} {ops ops1 ops2 : Array Oper} {π : Nat → Nat} {a b : Nat} {Q : Exit → Act → World → Prop} (s1 : Sim ops ops1 (fun i => i) a b) (s2 : Sim ops ops2 π b a) (hab : a ≠ b) (hg : ∀ (i : Nat) (o : Oper), ops[i]? = some o → simpleO o.op = true ∧ o.guard = none) :
    ∀ (fuel : Nat) (l l1 l2 : Array Bool) (ac : Act) (w : World), LR (fun i => i) ops.size l l1 → LR π ops.size l l2 →
      ((wpAnyIn (wideR rd) 0 P .any ops1 Q fuel l1 ac w ∧ wpAnyIn (wideR rd) 0 P .any ops2 Q fuel l2 ac w ∧ l.getD a false = false ∧ l.getD b false = false) ∨
        (wpAnyIn (wideR rd) 0 P .any ops1 Q fuel l1 ac w ∧ l.getD a false = true) ∨ (wpAnyIn (wideR rd) 0 P .any ops2 Q fuel l2 ac w ∧ l.getD b false = true)) → wpAnyIn (wideR rd) 0 P .any ops Q fuel l ac w := by
  have nil_of : ∀ {ops' : Array Oper} {π : Nat → Nat} {x y : Nat} {l l' : Array Bool}, Sim ops ops' π x y → LR π ops.size l l' → Region.ready .any ops l = [] → Region.ready .any ops' l' = [] := by
    intro ops' π x y l l' s h h0
    rw [List.eq_nil_iff_forall_not_mem] at h0 ⊢
    exact fun k hk => h0 _ (s.back h hk)
  intro fuel
  induction fuel with
  | zero =>
    intro l l1 l2 ac w r1 r2 h
    have no : ∀ {ops' : Array Oper} {π : Nat → Nat} {x y : Nat} {l l' : Array Bool} {i : Nat}, Sim ops ops' π x y → LR π ops.size l l' → Region.ready .any ops' l' = [] → i ∈ Region.ready .any ops l → (i = y → l.getD x false = true) → False := by
      intro ops' π x y l l' i s r h0 hi hy
      have := s.ready r hi hy
      rw [h0] at this
      cases this
    refine ⟨?_, by rcases h with ⟨h, _⟩ | ⟨h, _⟩ | ⟨h, _⟩ <;> exact h.2⟩
    rw [List.eq_nil_iff_forall_not_mem]
    intro i hi
    rcases h with ⟨h1, h2, ha, hb⟩ | ⟨h1, ha⟩ | ⟨h2, hb⟩
    · by_cases hib : i = b
      · exact no s2 r2 h2.1 hi fun e => absurd (e.symm.trans hib) hab
      · exact no s1 r1 h1.1 hi fun e => absurd e hib
    · exact no s1 r1 h1.1 hi fun _ => ha
    · exact no s2 r2 h2.1 hi fun _ => hb
  | succ fuel ih =>
    intro l l1 l2 ac w r1 r2 h
    refine ⟨fun h0 => ?_, fun i hi => ?_⟩
    · rcases h with ⟨h, _⟩ | ⟨h, _⟩ | ⟨h, _⟩
      · exact h.1 (nil_of s1 r1 h0)
      · exact h.1 (nil_of s1 r1 h0)
      · exact h.1 (nil_of s2 r2 h0)
    have hlt : i < ops.size := by
      rw [mem_ready r1.1] at hi
      obtain ⟨o, ho, _⟩ := hi
      exact (Array.getElem?_eq_some_iff.1 ho).1
    have hll : i < l.size := by rw [r1.1]; exact hlt
    have q1 := r1.set s1 hlt
    have q2 := r2.set s2 hlt
    have one : wpAnyIn (wideR rd) 0 P .any ops1 Q (fuel + 1) l1 ac w → (i = b → l.getD a false = true) → ((l.setIfInBounds i true).getD a false = true) → wpOpIn (wideR rd) 0 P ops Q i (wpAnyIn (wideR rd) 0 P .any ops Q fuel (l.setIfInBounds i true)) ac w := fun h1 hy ha =>
      s1.opIn hg hlt (wpOpIn_mono (fun a w hw => ih _ _ _ a w q1 q2 (.inr (.inl ⟨hw, ha⟩))) (h1.2 i (s1.ready r1 hi hy)))
    have two : wpAnyIn (wideR rd) 0 P .any ops2 Q (fuel + 1) l2 ac w → (i = a → l.getD b false = true) → ((l.setIfInBounds i true).getD b false = true) → wpOpIn (wideR rd) 0 P ops Q i (wpAnyIn (wideR rd) 0 P .any ops Q fuel (l.setIfInBounds i true)) ac w := fun h2 hy hb =>
      s2.opIn hg hlt (wpOpIn_mono (fun a w hw => ih _ _ _ a w q1 q2 (.inr (.inr ⟨hw, hb⟩))) (h2.2 (π i) (s2.ready r2 hi hy)))
    rcases h with ⟨h1, h2, ha, hb⟩ | ⟨h1, ha⟩ | ⟨h2, hb⟩
    · by_cases hia : i = a
      · exact one h1 (fun e => absurd (hia.symm.trans e) hab) ((set_get hll).2 (.inl hia.symm))
      · by_cases hib : i = b
        · exact two h2 (fun e => absurd e hia) ((set_get hll).2 (.inl hib.symm))
        · refine wpOpIn_mono (fun a' w' hw => ih _ _ _ a' w' q1 q2 (.inl ⟨hw.1, hw.2, ?_, ?_⟩)) (wpOpIn_and hg (s1.opIn hg hlt (h1.2 i (s1.ready r1 hi fun e => absurd e hib))) (s2.opIn hg hlt (h2.2 (π i) (s2.ready r2 hi fun e => absurd e hia))))
          · cases hc : (l.setIfInBounds i true).getD a false with
            | false => rfl
            | true =>
              rcases (set_get hll).1 hc with h | h
              · exact absurd h.symm hia
              · rw [ha] at h; cases h
          · cases hc : (l.setIfInBounds i true).getD b false with
            | false => rfl
            | true =>
              rcases (set_get hll).1 hc with h | h
              · exact absurd h.symm hib
              · rw [hb] at h; cases h
    · exact one h1 (fun _ => ha) ((set_get hll).2 (.inr ha))
    · exact two h2 (fun _ => hb) ((set_get hll).2 (.inr hb))

theorem sim_A (a : Nat) (l : List Oper) (h : a + 1 < l.length) : Sim l.toArray (twoA a l).toArray (fun i => i) a (a + 1) := by
  refine ⟨by simp [twoA, addEdge_len], fun i o ho => ?_, fun i hi => hi, fun i => rfl⟩
  have ho' : l[i]? = some o := by simpa using ho
  by_cases hi : i = a + 1
  · refine ⟨o.after.push ⟨a, .data⟩, by rw [List.getElem?_toArray, twoA, addEdge_get, ho', Option.map_some, if_pos hi], fun e he hb => ?_, fun e he hb => ⟨e, by simp [he], hb, rfl⟩⟩
    simp only [Array.toList_push, List.mem_append, List.mem_singleton] at he
    rcases he with he | rfl
    · exact .inl ⟨e, he, hb, rfl⟩
    · exact .inr ⟨hi, rfl⟩
  · exact ⟨o.after, by simp [twoA, addEdge_get, ho', hi], fun e he hb => .inl ⟨e, he, hb, rfl⟩, fun e he hb => ⟨e, he, hb, rfl⟩⟩
theorem sim_B (a : Nat) (l : List Oper) (h : a + 1 < l.length) : Sim l.toArray (twoB a l).toArray (swI a) (a + 1) a := by
  refine ⟨by simp [twoB, swapL_len, addEdge_len], fun i o ho => ?_, fun i hi => swI_lt (by simpa using h) hi, swI_inv a⟩
  have ho' : l[i]? = some o := by simpa using ho
  have key : (twoB a l)[swI a i]? = (l[i]?).map fun o => renE a (if i = a then { o with after := o.after.push ⟨a + 1, .data⟩ } else o) := by
    unfold twoB
    rw [List.getElem?_map, swapL_get a _ i (by rw [addEdge_len]; exact h), addEdge_get, Option.map_map]
    rfl
  have tm : ∀ (q : List Edge) (e' : Edge), e' ∈ q.map (fun e => { e with on := swI a e.on }) → ∃ e ∈ q, e' = { e with on := swI a e.on } := fun q e' he => by
    obtain ⟨e, h1, h2⟩ := List.mem_map.1 he
    exact ⟨e, h1, h2.symm⟩
  have bn : ∀ e : Edge, Region.binds .any { e with on := swI a e.on } = Region.binds .any e := fun e => rfl
  by_cases hi : i = a
  · refine ⟨((o.after.push ⟨a + 1, .data⟩).toList.map fun e => { e with on := swI a e.on }).toArray, ?_, fun e' he hb => ?_, fun e he hb => ⟨{ e with on := swI a e.on }, ?_, hb, rfl⟩⟩
    · rw [List.getElem?_toArray, key, ho', Option.map_some, if_pos hi]; rfl
    · obtain ⟨e, h1, rfl⟩ := tm _ _ he
      simp only [Array.toList_push, List.mem_append, List.mem_singleton] at h1
      rcases h1 with h1 | rfl
      · exact .inl ⟨e, h1, hb, rfl⟩
      · exact .inr ⟨hi, rfl⟩
    · exact List.mem_map.2 ⟨e, by simp [he], rfl⟩
  · refine ⟨(o.after.toList.map fun e => { e with on := swI a e.on }).toArray, ?_, fun e' he hb => ?_, fun e he hb => ⟨{ e with on := swI a e.on }, List.mem_map.2 ⟨e, he, rfl⟩, hb, rfl⟩⟩
    · rw [List.getElem?_toArray, key, ho', Option.map_some, if_neg hi]; rfl
    · obtain ⟨e, h1, rfl⟩ := tm _ _ he
      exact .inl ⟨e, h1, hb, rfl⟩

def allSimple : List Oper → Bool
  | [] => true
  | o :: r => simpleO o.op && o.guard.isNone && allSimple r
theorem allSimple_get (l : List Oper) : allSimple l = true → ∀ o ∈ l, simpleO o.op = true ∧ o.guard = none := by
  induction l with
  | nil => intro _ o ho; cases ho
  | cons o r ih =>
    intro h q hq
    simp only [allSimple, Bool.and_eq_true] at h
    rcases List.mem_cons.1 hq with rfl | hq
    · exact ⟨h.1.1, by simpa using h.1.2⟩
    · exact ih h.2 q hq

variable {C : Ctx}
theorem AWP.draw2 {id : Nat} {l : List Oper} {Q : Exit → AS → Prop} {s : AS} (a : Nat) (e1 e2 : List Nat) (hm : P.follows .mixedOrders = true) (hs : allSimple l = true) (hl : Nat.blt (a + 1) l.length = true) (hdag1 : dagOK (twoA a l).toArray e1 = true) (hdag2 : dagOK (twoB a l).toArray e2 = true)
    (h1 : ARun P C (twoA a l).toArray (some e1) 0 (twoA a l) s (Q .normal)) (h2 : ARun P C (twoB a l).toArray (some e2) 0 (twoB a l) s (Q .normal)) : AWP P C (.region id l.toArray true) Q s := fun rd ac w hr => by
  refine wpIn_region_any hm ?_
  have hr' : Rel rd C s ac { w with drawn := w.drawn + 1 } := by
    obtain ⟨V, F, m, hd, hn, hf⟩ := hr
    obtain ⟨m', e'⟩ := m.drew
    exact ⟨V, F, m', hd.ext e', hn, hf.ext e'⟩
  have hl' : a + 1 < l.length := by simpa [Nat.blt_eq] using hl
  have g1 := ARun.any hdag1 (by simpa using h1) hr' (Q := fun e a' w' => ∃ s', Q e s' ∧ Rel rd C s' a' w') fun s' a' w' hk hr2 => ⟨s', hk, hr2⟩
  have g2 := ARun.any hdag2 (by simpa using h2) hr' (Q := fun e a' w' => ∃ s', Q e s' ∧ Rel rd C s' a' w') fun s' a' w' hk hr2 => ⟨s', hk, hr2⟩
  have s1 := sim_A a l hl'
  have s2 := sim_B a l hl'
  rw [s1.size] at g1
  rw [s2.size] at g2
  have hnone : ∀ n j, (Array.replicate n false).getD j false = false := fun n j => by
    simp only [Array.getD_eq_getD_getElem?, Array.getElem?_replicate]
    split <;> rfl
  refine any_two s1 s2 (by omega) (fun i o ho => allSimple_get _ hs o (List.mem_of_getElem? (by simpa using ho))) _ _ _ _ _ _ ⟨by simp, by simp, fun j _ => rfl⟩ ⟨by simp, by simp, fun j _ => by rw [hnone, hnone]⟩ (.inl ⟨g1, g2, hnone _ _, hnone _ _⟩)
variable {tb : Tab} {fr : DF} {H : List OD}
theorem AWPD.draw2 {Q : Exit → DF → List OD → Prop} (ok : TabOK P tb) (a : Nat) (e1 e2 : List Nat) {id : Nat} {l : List Oper} (hp : plainF fr = true) (hs : allSimple l = true) (hl : Nat.blt (a + 1) l.length = true) (hdag1 : dagOK (twoA a l).toArray e1 = true) (hdag2 : dagOK (twoB a l).toArray e2 = true)
    (h1 : EV P C tb (twoA a l) (some e1) 0 (twoA a l) fr H (Q .normal)) (h2 : EV P C tb (twoB a l) (some e2) 0 (twoB a l) fr H (Q .normal)) : AWPD P C (.region id l.toArray true) Q fr H :=
  AWP.post_conv (AWP.draw2 a e1 e2 ok.mixed hs hl hdag1 hdag2 (ARun.mono (fun _ ⟨fr', H', h1, h2, h3⟩ => ⟨_, h2.conv h3, fr', H', h1, rfl⟩) _ _ _ (EV.sound ok _ 0 fr H _ h1 (Fine.start hp))) (ARun.mono (fun _ ⟨fr', H', h1, h2, h3⟩ => ⟨_, h2.conv h3, fr', H', h1, rfl⟩) _ _ _ (EV.sound ok _ 0 fr H _ h2 (Fine.start hp))))
end
end Go.Qw
