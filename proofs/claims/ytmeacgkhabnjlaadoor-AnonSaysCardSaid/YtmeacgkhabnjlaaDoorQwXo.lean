/-
  A small region that draws its order, explored: each order of its operations is walked. No program is named here.
-/
import Derived.Test.YtmeacgkhabnjlaaDoorQwQ
set_option linter.unusedSimpArgs false
set_option linter.unusedVariables false
set_option linter.unusedSectionVars false
namespace Go.Qw
open Go.RowKit

section
variable {P : Program} {C : Ctx}
/-- One operation, out of its run. -/
theorem ARun.op {rd : Option Nat} {ops : Array Oper} {e : Option (List Nat)} {Q : Exit → Act → World → Prop} {o : Oper} {k : Nat} {s : AS} {K : AS → Prop} (h : ARun P C ops e k [o] s K) {a : Act} {w : World} (hr : Rel rd C s a w) {K2 : Act → World → Prop}
    (hQ : ∀ s' a' w', K s' → Rel rd C s' a' w' → K2 a' w') :
    if Region.wanted o (yielded ops a.tmps) then o.wpIn (wideR rd) 0 P a w K2 Q else (∀ f, o.about P w a.eval = some f → (wideR rd).fn f) ∧ K2 (a.put o.dst undef) w := by
  unfold ARun at h
  obtain ⟨hd, h⟩ := h
  obtain ⟨V, F, m, hdef, hsz, hf⟩ := hr
  have go : ∀ av H', VStep P C o (ev s.fr) s.H av H' → ARun P C ops e (k + 1) [] ⟨putF s.fr o.dst av, H'⟩ K → o.wpIn (wideR rd) 0 P a w K2 Q := fun av H' hv hrest =>
    (hv a.eval w V F m fun x _ b hb => hf.ev hb).wp fun u w' ⟨V', F', m', he, hu⟩ =>
      hQ _ _ w' hrest ⟨V', F', m', by cases o.dst <;> exact hdef.ext he, by cases o.dst <;> simp [Act.put, hsz], (hf.ext he).put _ (fun k hk => by rw [hsz]; exact hd k hk) hu⟩
  have skip : ARun P C ops e (k + 1) [] ⟨putF s.fr o.dst (.v undef), s.H⟩ K → K2 (a.put o.dst undef) w := fun hrest =>
    hQ _ _ w hrest ⟨V, F, m, by cases o.dst <;> exact hdef, by cases o.dst <;> simp [Act.put, hsz], hf.put _ (fun k hk => by rw [hsz]; exact hd k hk) (by unfold VRep; rfl)⟩
  cases hg : o.guard with
  | none =>
    rw [hg] at h
    obtain ⟨av, H', hv, _, hrest⟩ := h
    rw [if_pos (by simp [Region.wanted, hg])]
    exact go av H' hv hrest
  | some g =>
    obtain ⟨j, want⟩ := g
    rw [hg] at h
    obtain ⟨d, u, hd2, hl, hy, hn⟩ := h
    obtain ⟨x, hx, hrx⟩ := hf d _ hl
    unfold VRep at hrx
    subst hrx
    rw [wanted_rel hg hd2 hx]
    by_cases hb : boolOf x = some want
    · rw [if_pos (by rw [hb]; simp)]
      obtain ⟨av, H', hv, _, hrest⟩ := hy hb
      exact go av H' hv hrest
    · rw [if_neg (by simpa using hb)]
      exact ⟨fun _ _ => trivial, skip (hn hb)⟩

def allP : List Nat → (Nat → Prop) → Prop
  | [], _ => True
  | i :: r, f => f i ∧ allP r f
theorem allP_get {f : Nat → Prop} : ∀ {l : List Nat}, allP l f → ∀ i ∈ l, f i
  | j :: r, h, i, hi => by
    rcases List.mem_cons.1 hi with rfl | hi
    · exact h.1
    · exact allP_get h.2 i hi
/-- What may come next, of what is listed. -/
def readyX (l0 : List Oper) (listed : List Bool) : List Nat := Region.ready .any l0.toArray listed.toArray
def XD (P : Program) (C : Ctx) (tb : Tab) (l0 : List Oper) : Nat → List Bool → DF → List OD → (DF → List OD → Prop) → Prop
  | 0, listed, fr, H, K => readyX l0 listed = [] ∧ K fr H
  | n + 1, listed, fr, H, K => (readyX l0 listed = [] → K fr H) ∧ allP (readyX l0 listed) fun j => match getOp l0 j with
    | some o => EV P C tb l0 none j [o] fr H fun fr' H' => XD P C tb l0 n (listed.set j true) fr' H' K
    | none => False
variable {tb : Tab}
theorem XD.more {l0 : List Oper} {n i : Nat} {r : List Nat} {listed : List Bool} {fr : DF} {H : List OD} {K : DF → List OD → Prop} (hr : readyX l0 listed = i :: r) (h : allP (i :: r) fun j => match getOp l0 j with
    | some o => EV P C tb l0 none j [o] fr H fun fr' H' => XD P C tb l0 n (listed.set j true) fr' H' K
    | none => False) : XD P C tb l0 (n + 1) listed fr H K := by
  unfold XD
  rw [hr]
  exact ⟨fun h0 => (by cases h0), h⟩
theorem XD.done {l0 : List Oper} {listed : List Bool} {fr : DF} {H : List OD} {K : DF → List OD → Prop} (hr : readyX l0 listed = []) (h : K fr H) : XD P C tb l0 0 listed fr H K := ⟨hr, h⟩
theorem XD.sound (ok : TabOK P tb) {rd : Option Nat} {l0 : List Oper} {K : DF → List OD → Prop} {Q : Exit → Act → World → Prop} (hQ : ∀ fr' H' frA' a' w', K fr' H' → Fine fr' frA' → Rel rd C ⟨frA', H'.map OD.ob⟩ a' w' → Q .normal a' w') :
    ∀ (n : Nat) (listed : List Bool) (fr : DF) (H : List OD) (frA : Fr) (a : Act) (w : World), XD P C tb l0 n listed fr H K → Fine fr frA → Rel rd C ⟨frA, H.map OD.ob⟩ a w → wpAnyIn (wideR rd) 0 P .any l0.toArray Q n listed.toArray a w
  | 0, listed, fr, H, frA, a, w, h, hF, hr => ⟨h.1, hQ _ _ _ _ _ h.2 hF hr⟩
  | n + 1, listed, fr, H, frA, a, w, h, hF, hr => by
    unfold XD at h
    refine ⟨fun h0 => hQ _ _ _ _ _ (h.1 h0) hF hr, fun i hi => ?_⟩
    have hi := allP_get h.2 i hi
    unfold wpOpIn
    cases ho : getOp l0 i with
    | none => rw [ho] at hi; exact hi.elim
    | some o =>
      rw [ho] at hi
      have ho' : l0.toArray[i]? = some o := by rw [List.getElem?_toArray, ← getOp_eq, ho]
      rw [ho']
      refine ARun.op (EV.sound ok [o] i fr H frA hi hF) hr fun s' a' w' ⟨fr', H', h1, h2, h3⟩ hr' => ?_
      obtain ⟨frA', HA⟩ := s'
      have h3 : HA = H'.map OD.ob := h3
      subst h3
      have := XD.sound ok hQ n _ fr' H' frA' a' w' h1 h2 hr'
      simpa using this
/-- THE REGION, in whatever order. -/
theorem AWPD.drawX (ok : TabOK P tb) {id : Nat} {l : List Oper} {Q : Exit → DF → List OD → Prop} {fr : DF} {H : List OD} (hp : plainF fr = true) (h : XD P C tb l l.length (List.replicate l.length false) fr H (Q .normal)) : AWPD P C (.region id l.toArray true) Q fr H := fun rd ac w hr => by
  refine wpIn_region_any ok.mixed ?_
  have hr' : Rel rd C ⟨frA fr, H.map OD.ob⟩ ac { w with drawn := w.drawn + 1 } := by
    obtain ⟨V, F, m, hd, hn, hf⟩ := hr
    obtain ⟨m', e'⟩ := m.drew
    exact ⟨V, F, m', hd.ext e', hn, hf.ext e'⟩
  have := XD.sound ok (rd := rd) (Q := fun e a' w' => ∃ s', (∃ fr' H', Q e fr' H' ∧ s' = ⟨frA fr', H'.map OD.ob⟩) ∧ Rel rd C s' a' w') (fun fr' H' frA' a' w' hk hF hr2 => ⟨_, ⟨fr', H', hk, rfl⟩, (Fine.conv (s := ⟨frA', H'.map OD.ob⟩) hF rfl) rd a' w' hr2⟩) l.length _ fr H (frA fr) ac _ h (Fine.start hp) hr'
  simpa using this
/-! ### The same, as it is walked -/

def readyAt (l0 : List Oper) (listed : List Bool) (i : Nat) : Bool := !(listed.getD i true) && (match getOp l0 i with
  | some o => o.after.toList.all fun e => !Region.binds .any e || listed.getD e.on false
  | none => false)
def readyY (l0 : List Oper) (listed : List Bool) : List Nat := (List.range l0.length).filter (readyAt l0 listed)
theorem readyY_eq (l0 : List Oper) (listed : List Bool) : readyX l0 listed = readyY l0 listed := by
  unfold readyX readyY Region.ready
  rw [List.size_toArray]
  refine List.filter_congr fun i _ => ?_
  unfold readyAt
  rw [getOp_eq, List.getElem?_toArray]
  have h1 : listed.toArray.getD i true = listed.getD i true := by simp [Array.getD_eq_getD_getElem?, List.getD]
  rw [h1]
  congr 1
  cases l0[i]? with
  | none => rfl
  | some o =>
    simp only [Option.map_some, Option.getD_some]
    rw [← Array.all_toList]
    congr 1
    funext e
    have h2 : listed.toArray.getD e.on false = listed.getD e.on false := by simp [Array.getD_eq_getD_getElem?, List.getD]
    rw [h2]
theorem XD.step {l0 : List Oper} {n i : Nat} (r : List Nat) {listed : List Bool} {fr : DF} {H : List OD} {K : DF → List OD → Prop} (hr : readyY l0 listed = i :: r) (h : allP (i :: r) fun j => match getOp l0 j with
    | some o => EV P C tb l0 none j [o] fr H fun fr' H' => XD P C tb l0 n (listed.set j true) fr' H' K
    | none => False) : XD P C tb l0 (n + 1) listed fr H K := XD.more (by rw [readyY_eq, hr]) h
theorem XD.end_ {l0 : List Oper} {listed : List Bool} {fr : DF} {H : List OD} {K : DF → List OD → Prop} (hr : readyY l0 listed = []) (h : K fr H) : XD P C tb l0 0 listed fr H K := XD.done (by rw [readyY_eq, hr]) h
theorem AWPD.drawXK (ok : TabOK P tb) (ts : List Nat) {base : DF} (H2 : List OD) {id : Nat} {l : List Oper} {Q : Exit → DF → List OD → Prop} {fr : DF} {H : List OD} (hp : plainF fr = true) (hb : keepF fr ts [] = some base)
    (h : XD P C tb l l.length (List.replicate l.length false) fr H fun fr' H' => Exit.normal = Exit.normal ∧ keepF fr' ts [] = some base ∧ H' = H2) (hq : Q .normal base H2) : AWPD P C (.region id l.toArray true) Q fr H := by
  refine AWP.post_conv (AWP.mono (AWPD.drawX (Q := fun e fr' H' => e = .normal ∧ keepF fr' ts [] = some base ∧ H' = H2) ok hp ?_) fun e s' ⟨fr', H', ⟨he, hk, hH⟩, hs⟩ => ?_)
  · exact h
  · subst he hH hs
    refine ⟨⟨frA base, H'.map OD.ob⟩, fun _ _ _ ⟨V, F, m, hd, hsz, hf⟩ => ⟨V, F, m, hd, hsz, fun t a ht => hf t a ?_⟩, base, H', hq, rfl⟩
    show look (frA fr') t = some a
    have ht : look (frA base) t = some a := ht
    rw [frA_look] at ht ⊢
    cases hl : lookD base t with
    | none => rw [hl] at ht; cases ht
    | some d =>
      rw [hl] at ht
      rw [keepF_look hk (fun _ _ h => by cases h) t d hl]
      exact ht
end
end Go.Qw
