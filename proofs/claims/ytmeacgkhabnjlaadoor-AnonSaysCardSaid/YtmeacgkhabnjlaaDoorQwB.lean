/-
  An abstract machine over the model's own code, part B: the abstract frame, one operation, a region's operations in the text's order, the code's forms, a function's contract. No program is named here.
-/
import Derived.Test.YtmeacgkhabnjlaaDoorQwA
import Derived.RangeFuncLeaves
import Derived.RangeFuncRecord
import Derived.OrdersIn
import Derived.TacticsIn
set_option linter.unusedSimpArgs false
set_option linter.unusedVariables false
set_option linter.unusedSectionVars false
namespace Go.Qw
open Go.RowKit

/-- THE ABSTRACT FRAME: what is known of the temporaries, the newest first. -/
abbrev Fr := List (Nat × AV)
def look : Fr → Nat → Option AV
  | [], _ => none
  | (k, a) :: r, t => bif Nat.beq k t then some a else look r t
def ev (fr : Fr) : Operand → Option AV
  | .tmp t => look fr t
  | .const u => some (.v u)
  | .func f => some (.v (.func (.func f) #[] #[]))
  | .global _ => none
def putF (fr : Fr) : Option Nat → AV → Fr
  | some d, a => (d, a) :: fr
  | none, _ => fr
def evs (ρ : Operand → Option AV) : List Operand → Option (List AV)
  | [] => some []
  | x :: r => match ρ x with
    | some a => match evs ρ r with
      | some l => some (a :: l)
      | none => none
    | none => none

structure AS where
  fr : Fr
  H : List Ob

def Frm (C : Ctx) (fr : Fr) (V : List Value) (F : List (List Nat)) (a : Act) (w : World) : Prop :=
  ∀ (t : Nat) (av : AV), look fr t = some av → ∃ x, a.tmps[t]? = some x ∧ VRep (okB C w F) w V av x
/-- ANY FUNCTION, IN NO ROUND OR IN A ROUND of a range over a function. -/
def wideR (rd : Option Nat) : Fence := { Fence.wide with round := rd }
def mark1 (D : Nat) : Deferred := { target := .collected D, args := #[] }
/-- The marks of loops that are over; the loop in whose round it runs. -/
def DefOK (rd : Option Nat) (C : Ctx) (F : List (List Nat)) (ds : List Deferred) (w : World) : Prop :=
  (∃ Ds : List Nat, ds = Ds.map mark1 ∧ Ds.Nodup ∧ ∀ D ∈ Ds, C.w0.heap.size ≤ D ∧ okB C w F D ∧ w.heap[D]? = some (.deferred (some []))) ∧
  ∀ l, rd = some l → ds = [] ∧ okB C w F l ∧ ∃ r, w.heap[l]? = some (.loop r)
theorem DefOK.ext {rd : Option Nat} {C : Ctx} {V V' : List Value} {F F' : List (List Nat)} {ds : List Deferred} {w w' : World} (h : DefOK rd C F ds w) (he : Ext C V F w V' F' w') : DefOK rd C F' ds w' := by
  obtain ⟨⟨Ds, h1, h2, h3⟩, h4⟩ := h
  refine ⟨⟨Ds, h1, h2, fun D hD => ?_⟩, fun l hl => ?_⟩
  · obtain ⟨a, b, c⟩ := h3 D hD
    exact ⟨a, (he.blk D b).1, (he.blk D b).2.trans c⟩
  · obtain ⟨e, a, r, b⟩ := h4 l hl
    exact ⟨e, (he.blk l a).1, r, (he.blk l a).2.trans b⟩
theorem DefOK.sub {rd : Option Nat} {C : Ctx} {F F' : List (List Nat)} {ds : List Deferred} {w : World} (h : DefOK rd C F ds w) (hs : ∀ f' ∈ F', ∀ b ∈ f', ∃ f ∈ F, b ∈ f) : DefOK rd C F' ds w := by
  have ok : ∀ b, okB C w F b → okB C w F' b := fun b hb => ⟨hb.1, hb.2.1, fun f' hf' hbf => let ⟨f, hf, hbf2⟩ := hs f' hf' b hbf; hb.2.2 f hf hbf2⟩
  obtain ⟨⟨Ds, h1, h2, h3⟩, h4⟩ := h
  exact ⟨⟨Ds, h1, h2, fun D hD => let ⟨a, b, c⟩ := h3 D hD; ⟨a, ok _ b, c⟩⟩, fun l hl => let ⟨e, a, b⟩ := h4 l hl; ⟨e, ok _ a, b⟩⟩
theorem DefOK.nil (C : Ctx) (F : List (List Nat)) (w : World) : DefOK none C F [] w := ⟨⟨[], rfl, List.nodup_nil, fun _ h => by cases h⟩, fun _ h => by cases h⟩
def Rel (rd : Option Nat) (C : Ctx) (s : AS) (a : Act) (w : World) : Prop :=
  ∃ V F, Mem C s.H V F w ∧ DefOK rd C F a.defers w ∧ a.tmps.size = C.N ∧ Frm C s.fr V F a w

theorem look_cons (k : Nat) (a : AV) (r : Fr) (t : Nat) : look ((k, a) :: r) t = if k = t then some a else look r t := by
  simp only [look]
  by_cases h : k = t
  · subst h; simp
  · rw [if_neg h]
    have : Nat.beq k t = false := by
      cases hb : Nat.beq k t with
      | false => rfl
      | true => exact absurd (Nat.eq_of_beq_eq_true hb) h
    rw [this]; rfl

section
variable {P : Program} {C : Ctx}

theorem Frm.ev {fr : Fr} {V : List Value} {F : List (List Nat)} {a : Act} {w : World} (h : Frm C fr V F a w) {x : Operand} {av : AV} (hx : ev fr x = some av) : VRep (okB C w F) w V av (a.eval x) := by
  cases x with
  | tmp t =>
    obtain ⟨u, hu, hr⟩ := h t av hx
    have : a.eval (.tmp t) = u := by simp [Act.eval, hu]
    rw [this]; exact hr
  | const u => simp only [Qw.ev, Option.some.injEq] at hx; subst hx; unfold VRep; rfl
  | func f => simp only [Qw.ev, Option.some.injEq] at hx; subst hx; unfold VRep; rfl
  | global g => cases hx

theorem Frm.ext {fr : Fr} {V V' : List Value} {F F' : List (List Nat)} {a : Act} {w w' : World} (h : Frm C fr V F a w) (e : Ext C V F w V' F' w') : Frm C fr V' F' a w' := fun t av ht =>
  let ⟨x, hx, hr⟩ := h t av ht
  ⟨x, hx, e.rep hr⟩

theorem Frm.put {fr : Fr} {V : List Value} {F : List (List Nat)} {a : Act} {w : World} (h : Frm C fr V F a w) (d : Option Nat) (hd : ∀ k, d = some k → k < a.tmps.size) {av : AV} {u : Value} (hu : VRep (okB C w F) w V av u) :
    Frm C (putF fr d av) V F (a.put d u) w := by
  cases d with
  | none => exact h
  | some k =>
    intro t b ht
    simp only [putF, look_cons] at ht
    have hk := hd k rfl
    simp only [Act.put]
    by_cases hkt : k = t
    · subst hkt
      rw [if_pos rfl] at ht
      cases ht
      exact ⟨u, by simp [hk], hu⟩
    · rw [if_neg hkt] at ht
      obtain ⟨x, hx, hr⟩ := h t b ht
      exact ⟨x, by rw [Array.getElem?_setIfInBounds, if_neg hkt]; exact hx, hr⟩

/-- WHAT ONE OPERATION DOES, its operands being told by 'σ'. -/
def Out (C : Ctx) (H' : List Ob) (av : AV) (V : List Value) (F : List (List Nat)) (w : World) (u : Value) (w' : World) : Prop :=
  ∃ V' F', Mem C H' V' F' w' ∧ Ext C V F w V' F' w' ∧ VRep (okB C w' F') w' V' av u
def Does (P : Program) (C : Ctx) (o : Oper) (σ : Operand → Value) (H' : List Ob) (av : AV) (V : List Value) (F : List (List Nat)) (w : World) : Prop :=
  (∃ u w', ((execOp σ o).run P w = .ok (.value u) w' ∨ ((execOp σ o).run P w = .ok .skip w' ∧ u = undef)) ∧ Out C H' av V F w u w') ∨
  (∃ f args, (execOp σ o).run P w = .ok (.enter f args) w ∧ Calls P f args w fun e w' => ∃ u, e = .returned u ∧ Out C H' av V F w u w')

def VStep (P : Program) (C : Ctx) (o : Oper) (ρ : Operand → Option AV) (H : List Ob) (av : AV) (H' : List Ob) : Prop :=
  ∀ (σ : Operand → Value) (w : World) (V : List Value) (F : List (List Nat)), Mem C H V F w → (∀ x ∈ o.op.operands, ∀ b, ρ x = some b → VRep (okB C w F) w V b (σ x)) → Does P C o σ H' av V F w

theorem callsIn_R {rd : Option Nat} {f : FuncId} {args : Array Value} {w : World} {R : Ending → World → Prop} (h : Calls P f args w R) : CallsIn (wideR rd) 0 P f args w R := callsIn_wide.2 h
theorem Does.noDefer {o : Oper} {σ : Operand → Value} {H' : List Ob} {av : AV} {V : List Value} {F : List (List Nat)} {w : World} (h : Does P C o σ H' av V F w) : ∀ c, o.op ≠ .defer c := by
  intro c hc
  have key : ∀ r w', (execOp σ o).run P w = .ok r w' → ∃ d, r = .defer d := by
    intro r w' hr
    unfold execOp at hr
    rw [hc] at hr
    simp only [Sem.run_bind] at hr
    generalize (resolve σ c o.type).run P w = q at hr
    cases q with
    | ok d w'' => simp only [Result.andThen, Sem.run_pure] at hr; cases hr; exact ⟨_, rfl⟩
    | halt x y => cases hr
  rcases h with ⟨u, w', hr | ⟨hr, _⟩, _⟩ | ⟨f, args, hr, _⟩
  · obtain ⟨d, hd⟩ := key _ _ hr; cases hd
  · obtain ⟨d, hd⟩ := key _ _ hr; cases hd
  · obtain ⟨d, hd⟩ := key _ _ hr; cases hd
theorem semAt_plain {rd : Option Nat} {o : Oper} (h : ∀ c, o.op ≠ .defer c) (σ : Operand → Value) : o.semAt rd σ = execOp σ o := by
  cases rd with
  | none => rfl
  | some l => exact Oper.semAt_some l σ o h
theorem Does.wp {rd : Option Nat} {o : Oper} {a : Act} {H' : List Ob} {av : AV} {V : List Value} {F : List (List Nat)} {w : World} (h : Does P C o a.eval H' av V F w) {K : Act → World → Prop} {Q : Exit → Act → World → Prop}
    (hK : ∀ u w', Out C H' av V F w u w' → K (a.put o.dst u) w') : o.wpIn (wideR rd) 0 P a w K Q := by
  refine ⟨fun _ _ => trivial, ?_⟩
  rw [semAt_plain h.noDefer]
  rcases h with ⟨u, w', hr | ⟨hr, rfl⟩, hout⟩ | ⟨f, args, hr, hc⟩
  · rw [hr]; exact hK u w' hout
  · rw [hr]; exact hK _ w' hout
  · rw [hr]
    refine ⟨fun h => by simp [wideR, Fence.wide] at h, (callsIn_R hc).mono ?_⟩
    rintro e w' ⟨u, he, hout⟩
    subst he
    exact hK u w' hout

/-! ### A region's operations, in the text's order -/

def boolOf : Value → Option Bool
  | .bool b => some b
  | _ => none

/-- An operation that neither looks at the world nor turns it. -/
def pureK : Op → Bool
  | .nilCheck _ => true
  | .fieldAddr _ _ _ => true
  | .move _ => true
  | .slice _ _ _ _ none => true
  | _ => false
def nIn : List Nat → Nat → Bool
  | [], _ => false
  | k :: r, d => bif Nat.beq k d then true else nIn r d
/-- An operation that is told not to look at objects: its number and 1000 in the list. -/
def freeE (e : Option (List Nat)) (k : Nat) : Bool :=
  match e with
  | none => false
  | some E => nIn E (k + 1000)
def pureE (e : Option (List Nat)) (k : Nat) (op : Op) : Bool := pureK op || freeE e k
/-- What may become of the objects at operation k: anything in a region without a draw ('none'); in one that draws nothing, but for the operations that are told. -/
def hOK (e : Option (List Nat)) (k : Nat) (H H' : List Ob) : Prop :=
  match e with
  | none => True
  | some E => nIn E k = true ∨ H' = H

def ARun (P : Program) (C : Ctx) (ops : Array Oper) (e : Option (List Nat)) : Nat → List Oper → AS → (AS → Prop) → Prop
  | _, [], s, K => K s
  | k, o :: rest, s, K => (∀ k, o.dst = some k → k < C.N) ∧ match o.guard with
    | none => ∃ av H', VStep P C o (ev s.fr) s.H av H' ∧ (hOK e k s.H H' ∧ (pureE e k o.op = true → ∀ H2, VStep P C o (ev s.fr) H2 av H2)) ∧ ARun P C ops e (k + 1) rest ⟨putF s.fr o.dst av, H'⟩ K
    | some (j, want) => ∃ d u, (ops[j]?).bind (·.dst) = some d ∧ look s.fr d = some (.v u) ∧
        (boolOf u = some want → ∃ av H', VStep P C o (ev s.fr) s.H av H' ∧ (hOK e k s.H H' ∧ (pureE e k o.op = true → ∀ H2, VStep P C o (ev s.fr) H2 av H2)) ∧ ARun P C ops e (k + 1) rest ⟨putF s.fr o.dst av, H'⟩ K) ∧
        (boolOf u ≠ some want → ARun P C ops e (k + 1) rest ⟨putF s.fr o.dst (.v undef), s.H⟩ K)

def dstOK (N : Nat) : Option Nat → Bool
  | some k => Nat.blt k N
  | none => true
theorem dstOK.lt {N : Nat} {d : Option Nat} (h : dstOK N d = true) : ∀ k, d = some k → k < N := fun k hk => by
  subst hk
  simpa [dstOK, Nat.blt_eq] using h

section
variable {ops : Array Oper} {e : Option (List Nat)} {k : Nat} {s : AS} {K : AS → Prop} {d : Option Nat} {op : Op} {t : TypeId} {p : String} {af : Array Edge} {rest : List Oper} {av : AV} {H' : List Ob} {j : Nat} {want : Bool} {g : Nat} {b : Bool}
theorem ARun.nil (h : K s) : ARun P C ops e k [] s K := h
theorem ARun.cons (hv : VStep P C ⟨d, op, t, p, af, none⟩ (ev s.fr) s.H av H') (hd : dstOK C.N d = true) (hH : hOK e k s.H H') (hp : pureE e k op = true → ∀ H2, VStep P C ⟨d, op, t, p, af, none⟩ (ev s.fr) H2 av H2) (h : ARun P C ops e (k + 1) rest ⟨putF s.fr d av, H'⟩ K) :
    ARun P C ops e k (⟨d, op, t, p, af, none⟩ :: rest) s K := by
  unfold ARun
  exact ⟨dstOK.lt hd, av, H', hv, ⟨hH, hp⟩, h⟩
/-- A guard that says yes; one that says no; one that says either. -/
theorem ARun.gYes (hg : (ops[j]?).bind (·.dst) = some g) (hl : look s.fr g = some (.v (.bool b))) (hb : b = want) (h : ARun P C ops e k (⟨d, op, t, p, af, none⟩ :: rest) s K) : ARun P C ops e k (⟨d, op, t, p, af, some (j, want)⟩ :: rest) s K := by
  unfold ARun at h ⊢
  obtain ⟨hd, av, H', hv, hH, hrest⟩ := h
  refine ⟨hd, g, _, hg, hl, fun _ => ⟨av, H', hv, hH, hrest⟩, fun hn => ?_⟩
  subst hb
  exact absurd rfl hn
theorem ARun.gNo (hg : (ops[j]?).bind (·.dst) = some g) (hl : look s.fr g = some (.v (.bool b))) (hb : b = !want) (hd : dstOK C.N d = true) (h : ARun P C ops e (k + 1) rest ⟨putF s.fr d (.v undef), s.H⟩ K) :
    ARun P C ops e k (⟨d, op, t, p, af, some (j, want)⟩ :: rest) s K := by
  unfold ARun
  refine ⟨dstOK.lt hd, g, _, hg, hl, fun hy => ?_, fun _ => h⟩
  subst hb
  cases want <;> simp [boolOf] at hy
/-- A guard on an operation that was itself passed over. -/
theorem ARun.gUndef (hg : (ops[j]?).bind (·.dst) = some g) (hl : look s.fr g = some (.v undef)) (hd : dstOK C.N d = true) (h : ARun P C ops e (k + 1) rest ⟨putF s.fr d (.v undef), s.H⟩ K) :
    ARun P C ops e k (⟨d, op, t, p, af, some (j, want)⟩ :: rest) s K := by
  unfold ARun
  exact ⟨dstOK.lt hd, g, _, hg, hl, fun hy => by simp [boolOf, undef] at hy, fun _ => h⟩
theorem ARun.gSplit (hg : (ops[j]?).bind (·.dst) = some g) (hl : look s.fr g = some (.v (.bool b))) (hd : dstOK C.N d = true) (hy : b = want → ARun P C ops e k (⟨d, op, t, p, af, none⟩ :: rest) s K)
    (hn : b = !want → ARun P C ops e (k + 1) rest ⟨putF s.fr d (.v undef), s.H⟩ K) : ARun P C ops e k (⟨d, op, t, p, af, some (j, want)⟩ :: rest) s K := by
  by_cases hb : b = want
  · exact ARun.gYes hg hl hb (hy hb)
  · have hb' : b = !want := by cases b <;> cases want <;> simp_all
    exact ARun.gNo hg hl hb' hd (hn hb')
end

theorem wanted_rel {ops : Array Oper} {o : Oper} {j : Nat} {want : Bool} {d : Nat} {u : Value} {a : Act} (hg : o.guard = some (j, want)) (hd : (ops[j]?).bind (·.dst) = some d) (hu : a.tmps[d]? = some u) :
    Region.wanted o (yielded ops a.tmps) = (boolOf u == some want) := by
  simp only [Region.wanted, hg, yielded, hd, Option.bind_some, hu]
  cases u <;> rfl

theorem ARun.sound {rd : Option Nat} {ops : Array Oper} {e : Option (List Nat)} {Q : Exit → Act → World → Prop} : ∀ (l : List Oper) (k : Nat) (s : AS) (K : AS → Prop), ARun P C ops e k l s K → ∀ (a : Act) (w : World), Rel rd C s a w →
    (∀ s' a' w', K s' → Rel rd C s' a' w' → Q .normal a' w') → wpListIn (wideR rd) 0 P ops Q l a w
  | [], _, s, K, h, a, w, hr, hQ => hQ s a w h hr
  | o :: rest, k, s, K, h, a, w, hr, hQ => by
    unfold ARun at h
    obtain ⟨hd, h⟩ := h
    obtain ⟨V, F, m, hdef, hsz, hf⟩ := hr
    have go : ∀ av H', VStep P C o (ev s.fr) s.H av H' → ARun P C ops e (k + 1) rest ⟨putF s.fr o.dst av, H'⟩ K → o.wpIn (wideR rd) 0 P a w (wpListIn (wideR rd) 0 P ops Q rest) Q := fun av H' hv hrest =>
      (hv a.eval w V F m fun x _ b hb => hf.ev hb).wp fun u w' ⟨V', F', m', he, hu⟩ =>
        ARun.sound rest _ _ K hrest _ w' ⟨V', F', m', by cases o.dst <;> exact hdef.ext he, by cases o.dst <;> simp [Act.put, hsz], (hf.ext he).put _ (fun k hk => by rw [hsz]; exact hd k hk) hu⟩ hQ
    have skip : ARun P C ops e (k + 1) rest ⟨putF s.fr o.dst (.v undef), s.H⟩ K → wpListIn (wideR rd) 0 P ops Q rest (a.put o.dst undef) w := fun hrest =>
      ARun.sound rest _ _ K hrest _ w ⟨V, F, m, by cases o.dst <;> exact hdef, by cases o.dst <;> simp [Act.put, hsz], hf.put _ (fun k hk => by rw [hsz]; exact hd k hk) (by unfold VRep; rfl)⟩ hQ
    refine wpListIn_step fun K' hK' => ?_
    cases hg : o.guard with
    | none =>
      rw [hg] at h
      obtain ⟨av, H', hv, _, hrest⟩ := h
      rw [if_pos (by simp [Region.wanted, hg])]
      exact Oper.wpIn_mono (fun a w h => hK' a w h) (go av H' hv hrest)
    | some g =>
      obtain ⟨j, want⟩ := g
      rw [hg] at h
      obtain ⟨d, u, hd2, hl, hy, hn⟩ := h
      obtain ⟨x, hx, hrx⟩ := hf d _ hl
      unfold VRep at hrx
      subst hrx
      rw [wanted_rel hg hd2 hx]
      by_cases hb : boolOf x = some want
      · rw [if_pos (by rw [hb]; simp)]
        obtain ⟨av, H', hv, _, hrest⟩ := hy hb
        exact Oper.wpIn_mono (fun a w h => hK' a w h) (go av H' hv hrest)
      · rw [if_neg (by simpa using hb)]
        exact ⟨fun _ _ => trivial, hK' _ _ (skip (hn hb))⟩

/-! ### Code -/

def AWP (P : Program) (C : Ctx) (c : Code) (Q : Exit → AS → Prop) (s : AS) : Prop :=
  ∀ (rd : Option Nat) (a : Act) (w : World), Rel rd C s a w → c.wpIn (wideR rd) 0 P (fun e a' w' => ∃ s', Q e s' ∧ Rel rd C s' a' w') a w

def thenA (K : AS → Prop) (Q : Exit → AS → Prop) : Exit → AS → Prop
  | .normal, s => K s
  | e, s => Q e s
def inBlockA (id : Nat) (Q : Exit → AS → Prop) : Exit → AS → Prop
  | .exit id', s => if id' = id then Q .normal s else Q (.exit id') s
  | e, s => Q e s

variable {Q : Exit → AS → Prop} {s : AS}

theorem AWP.mono {c : Code} {Q' : Exit → AS → Prop} (h : AWP P C c Q s) (hq : ∀ e s, Q e s → Q' e s) : AWP P C c Q' s := fun rd a w hr =>
  wpIn_mono (h rd a w hr) fun e _ _ ⟨s', h1, h2⟩ => ⟨s', hq e s' h1, h2⟩
theorem AWP.skip (h : Q .normal s) : AWP P C .skip Q s := fun rd _ _ hr => wpIn_skip ⟨s, h, hr⟩
theorem AWP.exit {id : Nat} (h : Q (.exit id) s) : AWP P C (.exit id) Q s := fun rd _ _ hr => wpIn_exit ⟨s, h, hr⟩
theorem AWP.ret (h : Q .ret s) : AWP P C .ret Q s := fun rd _ _ hr => wpIn_ret ⟨s, h, hr⟩
theorem AWP.seq {x y : Code} (h : ∀ K : AS → Prop, (∀ s, AWP P C y Q s → K s) → AWP P C x (thenA K Q) s) : AWP P C (.seq x y) Q s := fun rd a w hr => by
  refine wpIn_seq (wpIn_mono (h (AWP P C y Q) (fun _ h => h) rd a w hr) fun e a' w' ⟨s', h1, h2⟩ => ?_)
  cases e with
  | normal => exact h1 rd a' w' h2
  | exit id => exact ⟨s', h1, h2⟩
  | goto l => exact ⟨s', h1, h2⟩
  | ret => exact ⟨s', h1, h2⟩
  | panic ch => exact ⟨s', h1, h2⟩
  | outgrown => exact ⟨s', h1, h2⟩
theorem AWP.cond {c : Operand} {x y : Code} {b : Bool} (hc : ev s.fr c = some (.v (.bool b))) (ht : b = true → AWP P C x Q s) (hf : b = false → AWP P C y Q s) : AWP P C (.cond c x y) Q s := fun rd a w hr => by
  have hb : a.eval c = .bool b := by
    obtain ⟨V, F, _, _, _, hfr⟩ := hr
    have := hfr.ev hc
    unfold VRep at this
    exact this
  cases b with
  | true => exact wpIn_cond hb (ht rfl rd a w hr)
  | false => exact wpIn_cond hb (hf rfl rd a w hr)
theorem AWP.block {id : Nat} {c : Code} (h : AWP P C c (inBlockA id Q) s) : AWP P C (.block id c) Q s := fun rd a w hr => by
  refine wpIn_block (wpIn_mono (h rd a w hr) fun e a' w' ⟨s', h1, h2⟩ => ?_)
  cases e with
  | exit id' =>
    simp only [Exit.inBlock, inBlockA] at h1 ⊢
    by_cases hid : id' = id
    · rw [if_pos hid] at h1 ⊢; exact ⟨s', h1, h2⟩
    · rw [if_neg hid] at h1 ⊢; exact ⟨s', h1, h2⟩
  | normal => exact ⟨s', h1, h2⟩
  | goto l => exact ⟨s', h1, h2⟩
  | ret => exact ⟨s', h1, h2⟩
  | panic ch => exact ⟨s', h1, h2⟩
  | outgrown => exact ⟨s', h1, h2⟩
theorem AWP.region {id : Nat} {l : List Oper} (h : ARun P C l.toArray none 0 l s (Q .normal)) : AWP P C (.region id l.toArray false) Q s := fun rd a w hr =>
  wpIn_region_lit (h.sound l 0 s _ a w hr fun s' _ _ hk hr' => ⟨s', hk, hr'⟩)

/-- A LOOP: 'I n s': at most n rounds are to come. -/
theorem AWP.loop {c : Code} (I : Nat → AS → Prop) (n : Nat) (h0 : I n s) (hround : ∀ n s, I n s → AWP P C c (thenA (fun s' => ∃ m, m < n ∧ I m s') Q) s) : AWP P C (.loop c) Q s := by
  intro rd a w hr b k cs hro hfn hroom
  have key : ∀ (n : Nat) (s : AS) (a : Act) (w : World), I n s → Rel rd C s a w →
      ∃ e a' w', (∃ s', Q e s' ∧ Rel rd C s' a' w') ∧ ArrivesIn (Machine.fenced P (wideR rd)) P (lone (b.atR a (.code c :: .inLoop c :: k)) cs w) b k cs e a' w' := by
    intro n
    induction n using Nat.strongRecOn with
    | _ n ih =>
      intro s a w hI hr
      obtain ⟨e, a₁, w₁, ⟨s₁, hq, hr₁⟩, harr⟩ := hround n s hI rd a w hr b (.inLoop c :: k) cs hro hfn hroom
      cases e with
      | normal =>
        obtain ⟨m, hm, hI₁⟩ := hq
        obtain ⟨e₂, a₂, w₂, hq₂, harr₂⟩ := ih m hm s₁ a₁ w₁ hI₁ hr₁
        exact ⟨e₂, a₂, w₂, hq₂, .of_steps (StepsIn.trans harr (.one (fenced_calm (fr := b.atR a₁ (.inLoop c :: k)) hfn hroom rfl) stepR_inLoop)) harr₂⟩
      | exit id => exact ⟨_, a₁, w₁, ⟨s₁, hq, hr₁⟩, .pass (x := .inLoop c) rfl (fun _ _ => .inl (by simp)) harr⟩
      | goto l => exact ⟨_, a₁, w₁, ⟨s₁, hq, hr₁⟩, .pass (x := .inLoop c) rfl (fun _ _ => .inl (by simp)) harr⟩
      | ret => exact ⟨_, a₁, w₁, ⟨s₁, hq, hr₁⟩, .pass (x := .inLoop c) rfl (fun _ _ => .inl (by simp)) harr⟩
      | panic ch => exact ⟨_, a₁, w₁, ⟨s₁, hq, hr₁⟩, .pass (x := .inLoop c) rfl (fun _ _ => .inl (by simp)) harr⟩
      | outgrown => exact ⟨_, a₁, w₁, ⟨s₁, hq, hr₁⟩, .pass (x := .inLoop c) rfl (fun _ _ => .inl (by simp)) harr⟩
  obtain ⟨e, a', w', hq, harr⟩ := key n s a w h0 hr
  exact ⟨e, a', w', hq, .of_steps (.one (fenced_calm (fr := b.atR a (.code (.loop c) :: k)) hfn hroom rfl) stepR_loop) harr⟩

/-! ### What is known may be told otherwise -/

def Conv (C : Ctx) (s s' : AS) : Prop := ∀ (rd : Option Nat) (a : Act) (w : World), Rel rd C s a w → Rel rd C s' a w
theorem AWP.conv {c : Code} {s' : AS} (hc : Conv C s s') (h : AWP P C c Q s') : AWP P C c Q s := fun rd a w hr => h rd a w (hc rd a w hr)

/-- A smaller frame, over the same objects. -/
def subF (fr : Fr) : Fr → Prop
  | [] => True
  | (t, a) :: r => look fr t = some a ∧ subF fr r
theorem subF.look {fr : Fr} : ∀ {fr' : Fr}, subF fr fr' → ∀ (t : Nat) (a : AV), look fr' t = some a → look fr t = some a
  | [], _, t, a, h => by cases h
  | (k, b) :: r, hs, t, a, h => by
    rw [look_cons] at h
    by_cases hk : k = t
    · subst hk; rw [if_pos rfl] at h; cases h; exact hs.1
    · rw [if_neg hk] at h; exact hs.2.look t a h
theorem Conv.sub {fr fr' : Fr} {H : List Ob} (h : subF fr fr') : Conv C ⟨fr, H⟩ ⟨fr', H⟩ := fun _ _ _ ⟨V, F, m, hd, hsz, hf⟩ => ⟨V, F, m, hd, hsz, fun t a ht => hf t a (h.look t a ht)⟩

/-! ### The marks are taken in -/

def shutW (w : World) : List Nat → World
  | [] => w
  | D :: Ds => shutW (w.putObj D (.deferred none)) Ds
theorem cell_putD {w : World} {D : Nat} (h : w.heap[D]? = some (.deferred (some []))) (a : Addr) : (w.putObj D (.deferred none)).cell? a = w.cell? a := by
  unfold World.cell?
  by_cases hb : a.block = D
  · rw [hb, h, World.putObj_heap_same (Array.getElem?_eq_some_iff.1 h).1]
  · rw [World.putObj_heap_other hb]
theorem Mem.shut1 {C : Ctx} {H : List Ob} {V : List Value} {F : List (List Nat)} {w : World} (m : Mem C H V F w) {D : Nat} (h0 : C.w0.heap.size ≤ D) (hok : okB C w F D) (h : w.heap[D]? = some (.deferred (some []))) :
    Mem C H V F (w.putObj D (.deferred none)) ∧ ∀ (av : AV) (x : Value), VRep (okB C w F) w V av x → VRep (okB C (w.putObj D (.deferred none)) F) (w.putObj D (.deferred none)) V av x := by
  have okk : ∀ b, okB C w F b → okB C (w.putObj D (.deferred none)) F b := fun b hb => ⟨hb.1, by rw [World.putObj_size]; exact hb.2.1, hb.2.2⟩
  have hb : ∀ b, okB C w F b → okB C (w.putObj D (.deferred none)) F b ∧ ∀ a : Addr, a.block = b → (w.putObj D (.deferred none)).cell? a = w.cell? a := fun b hb => ⟨okk b hb, fun a _ => cell_putD h a⟩
  refine ⟨⟨m.os, m.tape, m.output, by rw [World.putObj_size]; exact m.size, fun b hb hn => ?_, m.lenV, m.lenF, fun i o x f h1 h2 h3 => ?_, m.one, m.apart, fun f hf b hb => by rw [World.putObj_size]; exact m.own f hf b hb, m.car⟩, fun av x hr => hr.extC (fun _ _ h => h) hb av x⟩
  · rw [World.putObj_heap_other (by omega)]; exact m.kept b hb hn
  · refine (m.obs i o x f h1 h2 h3).extC (fun _ _ h => h) hb (fun b hbf => ?_) o
    rw [World.putObj_heap_other]
    intro e
    subst e
    exact hok.2.2 f (mem_of_get h3) hbf
theorem Rel.shut {C : Ctx} {s : AS} : ∀ (Ds : List Nat) (a : Act) (w : World), (∃ V F, Mem C s.H V F w ∧ (Ds.Nodup ∧ ∀ D ∈ Ds, C.w0.heap.size ≤ D ∧ okB C w F D ∧ w.heap[D]? = some (.deferred (some []))) ∧ a.tmps.size = C.N ∧ Frm C s.fr V F a w) →
    Rel none C s { a with defers := [] } (shutW w Ds)
  | [], a, w, ⟨V, F, m, _, hsz, hf⟩ => ⟨V, F, m, DefOK.nil _ _ _, hsz, hf⟩
  | D :: Ds, a, w, ⟨V, F, m, ⟨hnd, hD⟩, hsz, hf⟩ => by
    obtain ⟨h1, h2, h3⟩ := hD D List.mem_cons_self
    obtain ⟨m', hv⟩ := m.shut1 h1 h2 h3
    rw [List.nodup_cons] at hnd
    refine Rel.shut Ds a _ ⟨V, F, m', ⟨hnd.2, fun D' hD' => ?_⟩, hsz, fun t av ht => let ⟨x, hx, hr⟩ := hf t av ht; ⟨x, hx, hv av x hr⟩⟩
    obtain ⟨g1, g2, g3⟩ := hD D' (List.mem_cons_of_mem _ hD')
    exact ⟨g1, ⟨g2.1, by rw [World.putObj_size]; exact g2.2.1, g2.2.2⟩, by rw [World.putObj_heap_other (show D' ≠ D from fun e => hnd.1 (by rw [← e]; exact hD'))]; exact g3⟩
theorem leaves_marks {F : Fence} {n : Nat} {fn : Func} {tmps : Array Value} {R : Ending → World → Prop} : ∀ (Ds : List Nat) (w : World), Ds.Nodup → (∀ D ∈ Ds, w.heap[D]? = some (.deferred (some []))) →
    (∃ v, (results fn tmps).run P (shutW w Ds) = .ok v (shutW w Ds) ∧ R (.returned v) (shutW w Ds)) → LeavesInM F n P fn tmps R (Ds.map mark1) .returning w
  | [], _, _, _, h => h
  | D :: Ds, w, hnd, hD, h => by
    rw [List.nodup_cons] at hnd
    have h1 := hD D List.mem_cons_self
    refine ⟨by simp, .inl ⟨D, _, rfl, run_takeDeferred h1, leaves_marks Ds _ hnd.2 (fun D' hD' => ?_) h⟩⟩
    rw [World.putObj_heap_other (show D' ≠ D from fun e => hnd.1 (by rw [← e]; exact hD'))]
    exact hD D' (List.mem_cons_of_mem _ hD')
/-- A function's contract out of its body's walk. -/
theorem calls_of_AWP {f : FuncId} {fn : Func} {c : Code} {args : Array Value} {w : World} {R : Ending → World → Prop} {C : Ctx} {Q : Exit → AS → Prop} {s : AS} (hf : P.funcs[f]? = some fn) (hb : fn.body = some c) (h : AWP P C c Q s)
    (h0 : Rel none C s { tmps := args ++ Array.replicate (fn.ntmps - args.size) undef, defers := [] } w)
    (hR : ∀ e a' w', (∃ s', Q e s' ∧ Rel none C s' a' w') → (e = .ret ∨ e = .normal) ∧ ∃ v, (results fn a'.tmps).run P w' = .ok v w' ∧ R (.returned v) w') : Calls P f args w R := by
  refine callsIn_wide (n := 0).1 (callsIn_of_wp_marks (F := Fence.wide) hf hb trivial (wpIn_mono (h none _ w h0) fun e a' w' ⟨s', hq, hr⟩ => ?_))
  obtain ⟨V, F, m, ⟨⟨Ds, hds, hnd, hD⟩, _⟩, hsz, hfr⟩ := hr
  obtain ⟨he, hfin⟩ := hR e _ _ ⟨s', hq, Rel.shut Ds a' w' ⟨V, F, m, ⟨hnd, hD⟩, hsz, hfr⟩⟩
  have fin : LeavesInM Fence.wide 0 P fn a'.tmps R a'.defers .returning w' := by
    rw [hds]
    exact leaves_marks Ds w' hnd (fun D hD' => (hD D hD').2.2) hfin
  rcases he with rfl | rfl
  · exact fin
  · exact fin

/-! ### A function's contract -/

/-- 'f', handed 'args' over the objects 'H' (which it may write), gives 'r' and leaves 'H'': those that it was handed, turned, and new ones. -/
def Lifts (P : Program) (f : FuncId) (args : List AV) (H : List Ob) (r : AV) (H' : List Ob) : Prop :=
  (∃ fn, P.funcs[f]? = some fn ∧ (fn.name == "runtime.NumGoroutine") = false ∧ fn.body.isNone = false) ∧
  ∀ (w : World) (X : Nat → Prop) (V : List Value) (F : List (List Nat)) (vs : Array Value), Mem ⟨w, X, F.flatten, V, 0⟩ H V F w → VReps (okB ⟨w, X, F.flatten, V, 0⟩ w F) w V args vs.toList →
    Calls P f vs w fun e w' => ∃ u, e = .returned u ∧ Out ⟨w, X, F.flatten, V, 0⟩ H' r V F w u w'

theorem Mem.ctx {C C' : Ctx} {H : List Ob} {V : List Value} {F : List (List Nat)} {w : World} (h1 : C'.w0 = C.w0) (h2 : C'.X0 = C.X0) (h3 : C'.F0 = C.F0) (h4 : C'.V0 = C.V0) (m : Mem C H V F w) : Mem C' H V F w := by
  obtain ⟨w0, X0, F0, V0, N⟩ := C
  obtain ⟨w0', X0', F0', V0', N'⟩ := C'
  simp only at h1 h2 h3 h4
  subst h1 h2 h3 h4
  exact ⟨m.os, m.tape, m.output, m.size, m.kept, m.lenV, m.lenF, m.obs, m.one, m.apart, m.own, m.car⟩

theorem Out.ctx {C C' : Ctx} {H : List Ob} {av : AV} {V : List Value} {F : List (List Nat)} {w w' : World} {u : Value} (h1 : C'.w0 = C.w0) (h2 : C'.X0 = C.X0) (h3 : C'.F0 = C.F0) (h4 : C'.V0 = C.V0) (m : Out C H av V F w u w') : Out C' H av V F w u w' := by
  obtain ⟨V', F', m', e, hr⟩ := m
  refine ⟨V', F', m'.ctx h1 h2 h3 h4, ?_, ?_⟩
  · obtain ⟨w0, X0, F0, V0, N⟩ := C
    obtain ⟨w0', X0', F0', V0', N'⟩ := C'
    simp only at h1 h2 h3 h4
    subst h1 h2 h3 h4
    exact ⟨e.car, e.blk⟩
  · obtain ⟨w0, X0, F0, V0, N⟩ := C
    obtain ⟨w0', X0', F0', V0', N'⟩ := C'
    simp only at h1 h2 h3 h4
    subst h1 h2 h3 h4
    exact hr

def argsF : Nat → List AV → Fr
  | _, [] => []
  | k, a :: r => (k, a) :: argsF (k + 1) r
theorem argsF_look : ∀ (l : List AV) (k t : Nat) (a : AV), look (argsF k l) t = some a → k ≤ t ∧ l[t - k]? = some a
  | [], _, _, _, h => by cases h
  | b :: l, k, t, a, h => by
    simp only [argsF, look_cons] at h
    by_cases hk : k = t
    · subst hk; rw [if_pos rfl] at h; cases h; simp
    · rw [if_neg hk] at h
      obtain ⟨h1, h2⟩ := argsF_look l (k + 1) t a h
      refine ⟨by omega, ?_⟩
      rw [show t - k = (t - (k + 1)) + 1 by omega]
      simpa using h2

/-- The results of a function, out of its frame. -/
def resA (fr : Fr) : List ResultVar → Option AV
  | [.tmp t] => look fr t
  | [.tmp t, .tmp u] => match look fr t, look fr u with
    | some a, some b => some (.tup [a, b])
    | _, _ => none
  | [.tmp t, .tmp u, .tmp x] => match look fr t, look fr u, look fr x with
    | some a, some b, some c => some (.tup [a, b, c])
    | _, _, _ => none
  | [] => some (.v (.tuple #[]))
  | _ => none

theorem resA_run {fn : Func} {fr : Fr} {r : AV} (hr : resA fr fn.results.toList = some r) {V : List Value} {F : List (List Nat)} {a : Act} {w : World} (hf : Frm C fr V F a w) :
    ∃ u, (results fn a.tmps).run P w = .ok u w ∧ VRep (okB C w F) w V r u := by
  have get : ∀ (t : Nat) (av : AV), look fr t = some av → VRep (okB C w F) w V av (a.tmps.getD t undef) := fun t av h => by
    obtain ⟨x, hx, hv⟩ := hf t av h
    have : a.tmps.getD t undef = x := by simp [hx]
    rw [this]; exact hv
  have hl : fn.results = fn.results.toList.toArray := by simp
  generalize fn.results.toList = l at hr hl
  match l, hr with
  | [.tmp t], hr => exact ⟨_, results_tmp hl _ _ _, get t r hr⟩
  | [.tmp t, .tmp u], hr =>
    simp only [resA] at hr
    cases h1 : look fr t <;> rw [h1] at hr <;> try (cases hr; done)
    cases h2 : look fr u <;> rw [h2] at hr <;> try (cases hr; done)
    cases hr
    refine ⟨_, results_tmp2 hl _ _ _, ?_⟩
    unfold VRep VReps VReps VReps
    exact ⟨_, rfl, _, _, rfl, get t _ h1, _, _, rfl, get u _ h2, rfl⟩
  | [.tmp t, .tmp u, .tmp x], hr =>
    simp only [resA] at hr
    cases h1 : look fr t <;> rw [h1] at hr <;> try (cases hr; done)
    cases h2 : look fr u <;> rw [h2] at hr <;> try (cases hr; done)
    cases h3 : look fr x <;> rw [h3] at hr <;> try (cases hr; done)
    cases hr
    refine ⟨.tuple #[a.tmps.getD t undef, a.tmps.getD u undef, a.tmps.getD x undef], by simp [results, hl], ?_⟩
    unfold VRep VReps VReps VReps VReps
    exact ⟨_, rfl, _, _, rfl, get t _ h1, _, _, rfl, get u _ h2, _, _, rfl, get x _ h3, rfl⟩
  | [], hr =>
    cases hr
    refine ⟨.tuple #[], by simp [results, hl], ?_⟩
    unfold VRep
    rfl

/-- THE CONTRACT OUT OF THE BODY. -/
theorem Lifts.of_body {f : FuncId} {fn : Func} {c : Code} {args : List AV} {H : List Ob} {r : AV} {H' : List Ob} (N : Nat) (hf : P.funcs[f]? = some fn) (hb : fn.body = some c) (hN : fn.ntmps = N) (hname : (fn.name == "runtime.NumGoroutine") = false)
    (hn : Nat.ble args.length N = true)
    (h : ∀ (w0 : World) (X0 : Nat → Prop) (F0 : List Nat) (V0 : List Value), (H = [] → F0 = [] ∧ V0 = []) → AWP P ⟨w0, X0, F0, V0, N⟩ c (fun e s => (e = .ret ∨ e = .normal) ∧ s.H = H' ∧ resA s.fr fn.results.toList = some r) ⟨argsF 0 args, H⟩) : Lifts P f args H r H' := by
  subst hN
  refine ⟨⟨fn, hf, hname, by rw [hb]; rfl⟩, fun w X V F vs m hvs => ?_⟩
  have hlen : vs.size = args.length := by have := hvs.length; simpa using this
  have hn' : args.length ≤ fn.ntmps := Nat.le_of_ble_eq_true hn
  let C : Ctx := ⟨w, X, F.flatten, V, fn.ntmps⟩
  have m0 : Mem C H V F w := Mem.ctx (C := ⟨w, X, F.flatten, V, 0⟩) rfl rfl rfl rfl m
  refine calls_of_AWP hf hb (h w X F.flatten V (fun h0 => ?_)) ⟨V, F, m0, DefOK.nil _ _ _, by simp [hlen]; omega, fun t av ht => ?_⟩ fun e a' w' ⟨s', ⟨he, hH, hr⟩, V', F', m', hdef, hsz, hfr⟩ => ?_
  · subst h0
    have h1 : V = [] := List.eq_nil_of_length_eq_zero m.lenV
    have h2 : F = [] := List.eq_nil_of_length_eq_zero m.lenF
    subst h1 h2
    exact ⟨rfl, rfl⟩
  · obtain ⟨_, h2⟩ := argsF_look args 0 t av ht
    obtain ⟨x, hx, hv⟩ := hvs.get _ _ h2
    refine ⟨x, ?_, hv⟩
    have hlt : t < vs.size := by
      have := (List.getElem?_eq_some_iff.1 hx).1
      simpa using this
    rw [Array.getElem?_append_left hlt]
    simpa using hx
  · obtain ⟨u, hu, hv⟩ := resA_run (P := P) hr hfr
    have fin : ∃ v, (results fn a'.tmps).run P w' = .ok v w' ∧ ∃ u, (Ending.returned v) = .returned u ∧ Out ⟨w, X, F.flatten, V, 0⟩ H' r V F w u w' := by
      refine ⟨u, hu, u, rfl, V', F', ?_, ?_, hv⟩
      · rw [← hH]; exact Mem.ctx (C := C) rfl rfl rfl rfl m'
      · refine ⟨fun i x hx => m'.car i x hx, fun b hb => ?_⟩
        have hbX : b < w.heap.size := hb.2.1
        have hnF : b ∉ F.flatten := fun hm => by
          obtain ⟨f, hf, hbf⟩ := List.mem_flatten.1 hm
          exact hb.2.2 f hf hbf
        refine ⟨⟨hb.1, Nat.lt_of_lt_of_le hbX m'.size, fun f' hf' hbf => ?_⟩, m'.kept b hbX hnF⟩
        rcases (m'.own f' hf' b hbf).2 with h | h
        · exact hnF h
        · have : w.heap.size ≤ b := h
          omega
    exact ⟨he, fin⟩
end
end Go.Qw
