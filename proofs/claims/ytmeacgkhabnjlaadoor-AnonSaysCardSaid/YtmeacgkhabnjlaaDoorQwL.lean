/-
  An abstract machine over the model's own code, part L: a region's operations in a row, as one statement that Lean unfolds. No program is named here.
-/
import Derived.Test.YtmeacgkhabnjlaaDoorQwK
set_option linter.unusedSimpArgs false
set_option linter.unusedVariables false
set_option linter.unusedSectionVars false
namespace Go.Qw
open Go.RowKit

def unopt : DV → DV
  | .opt _ d => d
  | d => d
def evS (E : TypeId) (fr : DF) (x : Operand) : Option DV := match evD E fr x with
  | some d => some (unopt d)
  | none => none
def plainD : DV → Bool
  | .opt _ _ => false
  | _ => true
theorem plainD_ne {d : DV} (h : plainD d = true) : ∀ g x, d ≠ .opt g x := fun g x e => by subst e; cases h
def getOp : List Oper → Nat → Option Oper
  | [], _ => none
  | o :: _, 0 => some o
  | _ :: r, n + 1 => getOp r n
theorem getOp_eq : ∀ (l : List Oper) (n : Nat), getOp l n = l[n]?
  | [], _ => rfl
  | _ :: _, 0 => rfl
  | _ :: r, n + 1 => by simp [getOp, getOp_eq r n]
/-- The condition under which an operation runs; 'none' inside: always. -/
def guardD (l0 : List Oper) (fr : DF) : Option (Nat × Bool) → Option (Option Bool)
  | none => some none
  | some (j, want) => match getOp l0 j with
    | some o => match o.dst with
      | some d => match lookD fr d with
        | some (.b b) => some (some (bif want then b else !b))
        | some (.opt g (.b b)) => some (some (g && (bif want then b else !b)))
        | _ => none
      | none => none
    | none => none
def oblP : Option Bool → Option Prop → Prop → Prop
  | _, none, X => X
  | none, some q, X => q ∧ X
  | some c, some q, X => (c = true → q) ∧ X
def needP (E : TypeId) (fr : DF) (c : Option Bool) : List Operand → Prop → Prop
  | [], X => X
  | x :: r, X => match evD E fr x with
    | some (.opt g _) => oblP c (some (g = true)) (needP E fr c r X)
    | _ => needP E fr c r X
def putG (c : Option Bool) (fr : DF) (d : Option Nat) (a : DV) : DF := match c with
  | none => putD fr d a
  | some c => putD fr d (.opt c a)
def pickH (E : TypeId) (fr : DF) (k : Option Bool) (bb : Bool) (x y : Operand) (X : DV → Prop) : Prop :=
  match evD E fr x, evD E fr y with
  | some (.b b1), some (.b b2) => X (.b (bif bb then b1 else b2))
  | some (.opt g (.b b1)), some (.b b2) => oblP k (some (bb = true → g = true)) (X (.b (bif bb then b1 else b2)))
  | some (.b b1), some (.opt g (.b b2)) => oblP k (some (bb = false → g = true)) (X (.b (bif bb then b1 else b2)))
  | some (.opt g1 (.b b1)), some (.opt g2 (.b b2)) => oblP k (some (bb = true → g1 = true)) (oblP k (some (bb = false → g2 = true)) (X (.b (bif bb then b1 else b2))))
  | _, _ => False
def pickG (E : TypeId) (fr : DF) (k : Option Bool) (c x y : Operand) (X : DV → Prop) : Prop :=
  match evD E fr c with
  | some (.b bb) => pickH E fr k bb x y X
  | some (.opt g (.b bb)) => oblP k (some (g = true)) (pickH E fr k bb x y X)
  | _ => False
def chOK (c : Option Bool) (ch : Bool) (e : Option (List Nat)) (k : Nat) : Bool := match ch with
  | false => true
  | true => match c with
    | some _ => false
    | none => match e with
      | none => true
      | some E => nIn E k
def hOKD (e : Option (List Nat)) (k : Nat) (H H' : List OD) : Prop := match e with
  | none => True
  | some E => match nIn E k with
    | true => True
    | false => H' = H

section
variable {P : Program} {C : Ctx} {tb : Tab}

def StepD (P : Program) (C : Ctx) (tb : Tab) (fr : DF) (o : Oper) (H : List OD) (r : DV) (H' : List OD) : Prop :=
  ∀ ρA, Told (evS tb.E fr) ρA → VStep P C o ρA (H.map OD.ob) r.av (H'.map OD.ob)

def EV (P : Program) (C : Ctx) (tb : Tab) (l0 : List Oper) (e : Option (List Nat)) : Nat → List Oper → DF → List OD → (DF → List OD → Prop) → Prop
  | _, [], fr, H, K => K fr H
  | k, o :: rest, fr, H, K => match dstOK C.N o.dst with
    | false => False
    | true => match guardD l0 fr o.guard with
      | none => False
      | some c => match o.op with
        | .pick a x y => pickG tb.E fr c a x y fun r => EV P C tb l0 e (k + 1) rest (putG c fr o.dst r) H K
        | op => match opG tb (evS tb.E fr) H o.dst op with
          | some (a, H', q, ch) => match chOK c ch e k with
            | true => match plainD a with
              | true => match freeE e k with
                | false => needP tb.E fr c op.operands.toList (oblP c q (EV P C tb l0 e (k + 1) rest (putG c fr o.dst a) H' K))
                | true => (∀ H2, opG tb (evS tb.E fr) H2 o.dst op = some (a, H2, q, false)) ∧ needP tb.E fr c op.operands.toList (oblP c q (EV P C tb l0 e (k + 1) rest (putG c fr o.dst a) H' K))
              | false => False
            | false => False
          | none => match pureE e k op with
            | true => False
            | false => needP tb.E fr c op.operands.toList (match c with
              | none => ∃ r H', StepD P C tb fr o H r H' ∧ plainD r = true ∧ hOKD e k H H' ∧ EV P C tb l0 e (k + 1) rest (putD fr o.dst r) H' K
              | some c => ∃ r H', (c = true → StepD P C tb fr o H r H') ∧ (c = false → H' = H) ∧ plainD r = true ∧ hOKD e k H H' ∧ EV P C tb l0 e (k + 1) rest (putD fr o.dst (.opt c r)) H' K)

def fineV : DV → AV → Prop
  | .opt g d, a => (g = true → a = d.av) ∧ (g = false → a = .v undef)
  | d, a => a = d.av
def Fine (fr : DF) (frA : Fr) : Prop := ∀ t d, lookD fr t = some d → ∃ a, look frA t = some a ∧ fineV d a

theorem fine_plain {d : DV} (h : ∀ g x, d ≠ .opt g x) (a : AV) : fineV d a ↔ a = d.av := by
  cases d with
  | opt g x => exact absurd rfl (h g x)
  | _ => exact Iff.rfl
theorem unopt_plain {d : DV} (h : ∀ g x, d ≠ .opt g x) : unopt d = d := by
  cases d with
  | opt g x => exact absurd rfl (h g x)
  | _ => rfl
theorem ofV_plain (E : TypeId) (u : Value) : ∀ g x, ofV E u ≠ .opt g x := fun g x h => by
  unfold ofV at h
  split at h <;> cases h

/-- What an operand is, in the finer frame. -/
theorem Fine.ev {E : TypeId} {fr : DF} {frA : Fr} (h : Fine fr frA) {x : Operand} {d : DV} (hx : evD E fr x = some d) : ∃ a, Qw.ev frA x = some a ∧ fineV d a := by
  cases x with
  | tmp t => exact h t d hx
  | const u =>
    simp only [evD, Option.some.injEq] at hx
    subst hx
    exact ⟨_, rfl, (fine_plain (ofV_plain E u) _).2 (ofV_av E u).symm⟩
  | func f =>
    simp only [evD, Option.some.injEq] at hx
    subst hx
    exact ⟨_, rfl, rfl⟩
  | global g => cases hx

theorem Fine.put {fr : DF} {frA : Fr} (h : Fine fr frA) (d : Option Nat) {a : DV} {b : AV} (hab : fineV a b) : Fine (putD fr d a) (putF frA d b) := by
  cases d with
  | none => exact h
  | some k =>
    intro t x hx
    simp only [putD, lookD, putF, look] at hx ⊢
    cases hb : Nat.beq k t with
    | true => rw [hb] at hx; cases hx; exact ⟨b, rfl, hab⟩
    | false => rw [hb] at hx; exact h t x hx

theorem VStep.swap {o : Oper} {ρ ρ' : Operand → Option AV} {H H' : List Ob} {a : AV} (h : ∀ x ∈ o.op.operands, ∀ b, ρ' x = some b → ρ x = some b) (hv : VStep P C o ρ' H a H') : VStep P C o ρ H a H' :=
  fun σ w V F m hρ => hv σ w V F m fun x hx b hb => hρ x hx b (h x hx b hb)

/-- The map that the steps are shown from. -/
def fullA (E : TypeId) (fr : DF) (frA : Fr) (x : Operand) : Option AV := match evS E fr x with
  | some a => some a.av
  | none => ev frA x
theorem fullA_told (E : TypeId) (fr : DF) (frA : Fr) : Told (evS E fr) (fullA E fr frA) := by
  refine ⟨fun x a h => by simp only [fullA, h], fun u => ?_⟩
  simp only [fullA, evS, evD, unopt_plain (ofV_plain E u), ofV_av]

/-- Whether the condition holds. -/
def onC : Option Bool → Prop
  | none => True
  | some c => c = true
theorem oblP_elim {c : Option Bool} {q : Option Prop} {X : Prop} (h : oblP c q X) : (onC c → holdsO q) ∧ X := by
  cases q with
  | none => exact ⟨fun _ => trivial, by cases c <;> exact h⟩
  | some q => cases c with
    | none => exact ⟨fun _ => h.1, h.2⟩
    | some c => exact ⟨h.1, h.2⟩
theorem needP_elim {E : TypeId} {fr : DF} {c : Option Bool} : ∀ {l : List Operand} {X : Prop}, needP E fr c l X → (onC c → ∀ x ∈ l, ∀ g d, evD E fr x = some (.opt g d) → g = true) ∧ X
  | [], X, h => ⟨fun _ x hx => (by cases hx), h⟩
  | x :: r, X, h => by
    unfold needP at h
    split at h
    · rename_i g d hx
      obtain ⟨h1, h2⟩ := oblP_elim h
      obtain ⟨h3, h4⟩ := needP_elim h2
      refine ⟨fun hc y hy g' d' hyd => ?_, h4⟩
      rcases List.mem_cons.1 hy with rfl | hy
      · rw [hx] at hyd; cases hyd; exact h1 hc
      · exact h3 hc y hy g' d' hyd
    · rename_i hno
      obtain ⟨h3, h4⟩ := needP_elim h
      refine ⟨fun hc y hy g' d' hyd => ?_, h4⟩
      rcases List.mem_cons.1 hy with rfl | hy
      · exact absurd hyd (hno g' d')
      · exact h3 hc y hy g' d' hyd

theorem fullA_ev {E : TypeId} {fr : DF} {frA : Fr} (hF : Fine fr frA) {l : List Operand} (hn : ∀ x ∈ l, ∀ g d, evD E fr x = some (.opt g d) → g = true) : ∀ x ∈ l, ∀ b, fullA E fr frA x = some b → ev frA x = some b := by
  intro x hx b hb
  simp only [fullA, evS] at hb
  cases he : evD E fr x with
  | none => rw [he] at hb; exact hb
  | some d =>
    rw [he] at hb
    simp only [Option.some.injEq] at hb
    subst hb
    obtain ⟨a, ha, hf⟩ := hF.ev he
    rw [ha]
    by_cases hopt : ∃ g x, d = .opt g x
    · obtain ⟨g, y, rfl⟩ := hopt
      exact congrArg some (hf.1 (hn x hx g y he))
    · have hp : ∀ g x, d ≠ .opt g x := fun g x h => hopt ⟨g, x, h⟩
      rw [(fine_plain hp a).1 hf, unopt_plain hp]

theorem hOKD_hOK {e : Option (List Nat)} {k : Nat} {H H' : List OD} (h : hOKD e k H H') : hOK e k (H.map OD.ob) (H'.map OD.ob) := by
  unfold hOKD at h
  unfold hOK
  cases e with
  | none => trivial
  | some E =>
    simp only at h ⊢
    cases hb : nIn E k with
    | true => exact .inl rfl
    | false => rw [hb] at h; exact .inr (by rw [h])
theorem chOK_hOK {c : Option Bool} {ch : Bool} {e : Option (List Nat)} {k : Nat} {H H' : List OD} (h : chOK c ch e k = true) (hH : ch = false → H' = H) : hOK e k (H.map OD.ob) (H'.map OD.ob) := by
  cases ch with
  | false =>
    rw [hH rfl]
    unfold hOK
    split
    · trivial
    · exact .inr rfl
  | true =>
    unfold chOK at h
    cases c with
    | some _ => cases h
    | none =>
      unfold hOK
      cases e with
      | none => trivial
      | some E => exact .inl h

/-- A guard, in the finer frame. -/
theorem guardD_run {l0 : List Oper} {fr : DF} {frA : Fr} (hF : Fine fr frA) {gd : Option (Nat × Bool)} {c : Option Bool} (h : guardD l0 fr gd = some c) :
    (gd = none ∧ c = none) ∨ ∃ j want d u cc, gd = some (j, want) ∧ c = some cc ∧ (l0.toArray[j]?).bind (·.dst) = some d ∧ look frA d = some (.v u) ∧ (cc = true ↔ boolOf u = some want) := by
  unfold guardD at h
  split at h
  · cases h; exact .inl ⟨rfl, rfl⟩
  · rename_i j want
    refine .inr ?_
    split at h
    · rename_i o ho
      split at h
      · rename_i d hd
        have hb : (l0.toArray[j]?).bind (·.dst) = some d := by
          rw [List.getElem?_toArray, ← getOp_eq, ho]
          exact hd
        split at h
        · rename_i b hl
          cases h
          obtain ⟨a, ha, hf⟩ := hF _ _ hl
          have hf : a = .v (.bool b) := hf
          subst hf
          exact ⟨j, want, d, _, _, rfl, rfl, hb, ha, by cases want <;> cases b <;> simp [boolOf]⟩
        · rename_i g b hl
          cases h
          obtain ⟨a, ha, hf1, hf2⟩ := hF _ _ hl
          cases g with
          | true =>
            have := hf1 rfl
            subst this
            exact ⟨j, want, d, _, _, rfl, rfl, hb, ha, by cases want <;> cases b <;> simp [boolOf]⟩
          | false =>
            have := hf2 rfl
            subst this
            exact ⟨j, want, d, _, _, rfl, rfl, hb, ha, by simp [boolOf, undef]⟩
        · cases h
      · cases h
    · cases h

/-- ONE OPERATION of the walk: its step, under its condition, and what it leaves. -/
theorem ARun.fine {l0 : List Oper} {e : Option (List Nat)} {k : Nat} {o : Oper} {rest : List Oper} {fr : DF} {frA : Fr} {H H' : List OD} {c : Option Bool} {r : DV} {K : AS → Prop} (hF : Fine fr frA) (hd : dstOK C.N o.dst = true) (hg : guardD l0 fr o.guard = some c)
    (hp : ∀ g x, r ≠ .opt g x) (hc : c = some false → H' = H) (hH : hOK e k (H.map OD.ob) (H'.map OD.ob)) (hv : onC c → VStep P C o (ev frA) (H.map OD.ob) r.av (H'.map OD.ob)) (hpu : onC c → pureE e k o.op = true → ∀ H2, VStep P C o (ev frA) H2 r.av H2)
    (hrest : ∀ frA', Fine (putG c fr o.dst r) frA' → ARun P C l0.toArray e (k + 1) rest ⟨frA', H'.map OD.ob⟩ K) : ARun P C l0.toArray e k (o :: rest) ⟨frA, H.map OD.ob⟩ K := by
  unfold ARun
  refine ⟨dstOK.lt hd, ?_⟩
  rcases guardD_run hF hg with ⟨h1, rfl⟩ | ⟨j, want, d, u, cc, h1, rfl, hb, hl, hcc⟩
  · rw [h1]
    exact ⟨_, _, hv trivial, ⟨hH, hpu trivial⟩, hrest _ (hF.put _ ((fine_plain hp _).2 rfl))⟩
  · rw [h1]
    cases cc with
    | false =>
      have := hc rfl
      subst this
      exact ⟨d, u, hb, hl, fun hy => absurd (hcc.2 hy) (by decide), fun hn => hrest _ (hF.put _ ⟨fun h => (by cases h), fun _ => rfl⟩)⟩
    | true => exact ⟨d, u, hb, hl, fun hy => ⟨_, _, hv rfl, ⟨hH, hpu rfl⟩, hrest _ (hF.put _ ⟨fun _ => rfl, fun h => (by cases h)⟩)⟩, fun hn => absurd (hcc.1 rfl) hn⟩

theorem hOK_same {e : Option (List Nat)} {k : Nat} (H : List Ob) : hOK e k H H := by
  unfold hOK
  split
  · trivial
  · exact .inr rfl
theorem evD_fullA {E : TypeId} {fr : DF} {frA : Fr} (hF : Fine fr frA) {x : Operand} {d : DV} (hx : evD E fr x = some d) (h : ∀ g y, d = .opt g y → g = true) : ev frA x = some (unopt d).av := by
  obtain ⟨a, ha, hf⟩ := hF.ev hx
  rw [ha]
  by_cases hopt : ∃ g y, d = .opt g y
  · obtain ⟨g, y, rfl⟩ := hopt
    exact congrArg some (hf.1 (h g y rfl))
  · have hp : ∀ g x, d ≠ .opt g x := fun g x h => hopt ⟨g, x, h⟩
    rw [(fine_plain hp a).1 hf, unopt_plain hp]

theorem pickH_ok {l0 : List Oper} {e : Option (List Nat)} {k : Nat} {d : Option Nat} {c x y : Operand} {t : TypeId} {p : String} {af : Array Edge} {gd : Option (Nat × Bool)} {rest : List Oper} {fr : DF} {frA : Fr} {H : List OD} {kc : Option Bool} {bb : Bool} {X : DV → Prop} {K : AS → Prop}
    (hF : Fine fr frA) (hd : dstOK C.N d = true) (hg : guardD l0 fr gd = some kc) (hc : onC kc → ev frA c = some (bv bb)) (h : pickH tb.E fr kc bb x y X)
    (hrest : ∀ r, X r → ∀ frA', Fine (putG kc fr d r) frA' → ARun P C l0.toArray e (k + 1) rest ⟨frA', H.map OD.ob⟩ K) :
    ARun P C l0.toArray e k (⟨d, .pick c x y, t, p, af, gd⟩ :: rest) ⟨frA, H.map OD.ob⟩ K := by
  unfold pickH at h
  have fin : ∀ (dx dy : DV) (b1 b2 : Bool), evD tb.E fr x = some dx → evD tb.E fr y = some dy → unopt dx = .b b1 → unopt dy = .b b2 →
      (onC kc → bb = true → ∀ g z, dx = .opt g z → g = true) → (onC kc → bb = false → ∀ g z, dy = .opt g z → g = true) → X (.b (bif bb then b1 else b2)) → ARun P C l0.toArray e k (⟨d, .pick c x y, t, p, af, gd⟩ :: rest) ⟨frA, H.map OD.ob⟩ K := by
    intro dx dy b1 b2 hx hy ex ey gx gy hX
    have step : ∀ H2 : List Ob, onC kc → VStep P C ⟨d, .pick c x y, t, p, af, gd⟩ (ev frA) H2 (DV.b (bif bb then b1 else b2)).av H2 := fun H2 hon => by
      cases bb with
      | true =>
        have := evD_fullA hF hx (gx hon rfl)
        rw [ex] at this
        exact VStep.pickT (hc hon) rfl this
      | false =>
        have := evD_fullA hF hy (gy hon rfl)
        rw [ey] at this
        exact VStep.pickF (hc hon) rfl this
    exact ARun.fine hF hd hg (plainD_ne (d := .b (bif bb then b1 else b2)) rfl) (fun _ => rfl) (hOK_same _) (fun hon => step _ hon) (fun hon _ H2 => step H2 hon) (hrest _ hX)
  split at h
  · rename_i hx hy
    exact fin _ _ _ _ hx hy rfl rfl (fun _ _ g z h => by cases h) (fun _ _ g z h => by cases h) h
  · rename_i hx hy
    obtain ⟨h1, h2⟩ := oblP_elim h
    exact fin _ _ _ _ hx hy rfl rfl (fun hon hb g z h => by cases h; exact h1 hon hb) (fun _ _ g z h => by cases h) h2
  · rename_i hx hy
    obtain ⟨h1, h2⟩ := oblP_elim h
    exact fin _ _ _ _ hx hy rfl rfl (fun _ _ g z h => by cases h) (fun hon hb g z h => by cases h; exact h1 hon hb) h2
  · rename_i hx hy
    obtain ⟨h1, h2⟩ := oblP_elim h
    obtain ⟨h3, h4⟩ := oblP_elim h2
    exact fin _ _ _ _ hx hy rfl rfl (fun hon hb g z h => by cases h; exact h1 hon hb) (fun hon hb g z h => by cases h; exact h3 hon hb) h4
  · cases h

theorem EV.sound (ok : TabOK P tb) {l0 : List Oper} {e : Option (List Nat)} {K : DF → List OD → Prop} : ∀ (l : List Oper) (k : Nat) (fr : DF) (H : List OD) (frA : Fr), EV P C tb l0 e k l fr H K → Fine fr frA →
    ARun P C l0.toArray e k l ⟨frA, H.map OD.ob⟩ (fun s => ∃ fr' H', K fr' H' ∧ Fine fr' s.fr ∧ s.H = H'.map OD.ob)
  | [], k, fr, H, frA, h, hF => ⟨fr, H, h, hF, rfl⟩
  | o :: rest, k, fr, H, frA, h, hF => by
    unfold EV at h
    cases hd : dstOK C.N o.dst with
    | false => rw [hd] at h; cases h
    | true =>
      rw [hd] at h
      simp only at h
      cases hg : guardD l0 fr o.guard with
      | none => rw [hg] at h; cases h
      | some c =>
        rw [hg] at h
        simp only at h
        split at h
        · rename_i a x y ho
          obtain ⟨od, oop, ot, opos, oaf, og⟩ := o
          simp only at ho hd hg
          subst ho
          unfold pickG at h
          split at h
          · rename_i bb ha
            exact pickH_ok hF hd hg (fun _ => evD_fullA hF ha (fun g y h => by cases h)) h fun r hr frA' hF' => EV.sound ok rest _ _ _ _ hr hF'
          · rename_i g bb ha
            obtain ⟨h1, h2⟩ := oblP_elim h
            exact pickH_ok hF hd hg (fun hon => evD_fullA hF ha (fun g' y h => by cases h; exact h1 hon)) h2 fun r hr frA' hF' => EV.sound ok rest _ _ _ _ hr hF'
          · cases h
        · have hops : ∀ (X : Prop), needP tb.E fr c o.op.operands.toList X → (onC c → ∀ x ∈ o.op.operands, ∀ b, fullA tb.E fr frA x = some b → ev frA x = some b) ∧ X := by
            intro X hX
            obtain ⟨h1, h2⟩ := needP_elim hX
            exact ⟨fun hon x hx => fullA_ev hF (h1 hon) x (by simpa using hx), h2⟩
          split at h
          · rename_i a H' q ch hop
            cases hch : chOK c ch e k with
            | false => rw [hch] at h; cases h
            | true =>
              rw [hch] at h
              simp only at h
              cases hpl : plainD a with
              | false => rw [hpl] at h; cases h
              | true =>
                rw [hpl] at h
                simp only at h
                have fin : ∀ (hX : needP tb.E fr c o.op.operands.toList (oblP c q (EV P C tb l0 e (k + 1) rest (putG c fr o.dst a) H' K))) (hfr : freeE e k = true → ∀ H2, opG tb (evS tb.E fr) H2 o.dst o.op = some (a, H2, q, false)),
                    ARun P C l0.toArray e k (o :: rest) ⟨frA, H.map OD.ob⟩ (fun s => ∃ fr' H', K fr' H' ∧ Fine fr' s.fr ∧ s.H = H'.map OD.ob) := by
                  intro hX hfr
                  obtain ⟨h1, h2⟩ := hops _ hX
                  obtain ⟨h3, h4⟩ := oblP_elim h2
                  have hHH : ch = false → H' = H := opG_ch hop
                  refine ARun.fine hF hd hg (plainD_ne hpl) (fun hx => ?_) (chOK_hOK hch hHH) (fun hon => ?_) (fun hon hpu H2 => ?_) fun frA' hF' => EV.sound ok rest _ _ _ _ h4 hF'
                  · subst hx
                    cases ch with
                    | false => exact hHH rfl
                    | true => cases hch
                  · exact (opG_sound ok (fullA_told tb.E fr frA) hop (h3 hon)).1.swap (h1 hon)
                  · rcases (by simpa [pureE] using hpu : pureK o.op = true ∨ freeE e k = true) with hp | hf
                    · exact (opG_pure ok (fullA_told tb.E fr frA) hop (h3 hon) hp H2).swap (h1 hon)
                    · have hs : VStep P C o (fullA tb.E fr frA) ((H2.map OD.raw).map OD.ob) a.av ((H2.map OD.raw).map OD.ob) := (opG_sound ok (fullA_told tb.E fr frA) (hfr hf (H2.map OD.raw)) (h3 hon)).1
                      rw [raw_map] at hs
                      exact hs.swap (h1 hon)
                cases hfe : freeE e k with
                | false =>
                  rw [hfe] at h
                  exact fin h fun hh => by rw [hfe] at hh; cases hh
                | true =>
                  rw [hfe] at h
                  exact fin h.2 fun _ => h.1
          · rename_i hop
            cases hpu : pureE e k o.op with
            | true => rw [hpu] at h; cases h
            | false =>
            rw [hpu] at h
            simp only at h
            obtain ⟨h1, h2⟩ := hops _ h
            cases c with
            | none =>
              obtain ⟨r, H', hs, hpl, hH, hr⟩ := h2
              exact ARun.fine hF hd hg (plainD_ne hpl) (fun hx => by cases hx) (hOKD_hOK hH) (fun hon => (hs _ (fullA_told tb.E fr frA)).swap (h1 hon)) (fun _ h => by rw [hpu] at h; cases h) fun frA' hF' => EV.sound ok rest _ _ _ _ hr hF'
            | some c =>
              obtain ⟨r, H', hs, hno, hpl, hH, hr⟩ := h2
              exact ARun.fine hF hd hg (plainD_ne hpl) (fun hx => hno (by injection hx)) (hOKD_hOK hH) (fun hon => (hs hon _ (fullA_told tb.E fr frA)).swap (h1 hon)) (fun _ h => by rw [hpu] at h; cases h) fun frA' hF' => EV.sound ok rest _ _ _ _ hr hF'
end
end Go.Qw
