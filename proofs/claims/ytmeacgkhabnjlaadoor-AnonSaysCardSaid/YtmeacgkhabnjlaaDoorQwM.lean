/-
  An abstract machine over the model's own code, part M: code, over typed values; a function's contract; calls. No program is named here.
-/
import Derived.Test.YtmeacgkhabnjlaaDoorQwL
set_option linter.unusedSimpArgs false
set_option linter.unusedVariables false
set_option linter.unusedSectionVars false
namespace Go.Qw
open Go.RowKit

def AWPD (P : Program) (C : Ctx) (c : Code) (Q : Exit → DF → List OD → Prop) (fr : DF) (H : List OD) : Prop :=
  AWP P C c (fun e s => ∃ fr' H', Q e fr' H' ∧ s = ⟨frA fr', H'.map OD.ob⟩) ⟨frA fr, H.map OD.ob⟩
def thenD (K : DF → List OD → Prop) (Q : Exit → DF → List OD → Prop) : Exit → DF → List OD → Prop
  | .normal, fr, H => K fr H
  | e, fr, H => Q e fr H
def inBlockD (id : Nat) (Q : Exit → DF → List OD → Prop) : Exit → DF → List OD → Prop
  | .exit id', fr, H => bif Nat.beq id' id then Q .normal fr H else Q (.exit id') fr H
  | e, fr, H => Q e fr H

section
variable {P : Program} {C : Ctx} {tb : Tab} {Q : Exit → DF → List OD → Prop} {fr : DF} {H : List OD}

theorem AWP.post_conv {c : Code} {Q : Exit → AS → Prop} {s : AS} (h : AWP P C c (fun e s => ∃ s', Conv C s s' ∧ Q e s') s) : AWP P C c Q s := fun rd a w hr =>
  wpIn_mono (h rd a w hr) fun _ a' w' ⟨_, ⟨s2, h1, h2⟩, h3⟩ => ⟨s2, h2, h1 rd a' w' h3⟩

theorem AWPD.mono {c : Code} {Q' : Exit → DF → List OD → Prop} (h : AWPD P C c Q fr H) (hq : ∀ e fr H, Q e fr H → Q' e fr H) : AWPD P C c Q' fr H :=
  AWP.mono h fun e _ ⟨fr', H', h1, h2⟩ => ⟨fr', H', hq e fr' H' h1, h2⟩
theorem AWPD.skip (h : Q .normal fr H) : AWPD P C .skip Q fr H := AWP.skip ⟨fr, H, h, rfl⟩
theorem AWPD.exit {id : Nat} (h : Q (.exit id) fr H) : AWPD P C (.exit id) Q fr H := AWP.exit ⟨fr, H, h, rfl⟩
theorem AWPD.ret (h : Q .ret fr H) : AWPD P C .ret Q fr H := AWP.ret ⟨fr, H, h, rfl⟩
theorem AWPD.seq {x y : Code} (h : ∀ K : DF → List OD → Prop, (∀ fr H, AWPD P C y Q fr H → K fr H) → AWPD P C x (thenD K Q) fr H) : AWPD P C (.seq x y) Q fr H := by
  refine AWP.seq fun K hK => AWP.mono (h (fun fr H => AWPD P C y Q fr H) (fun _ _ h => h)) fun e s ⟨fr', H', h1, h2⟩ => ?_
  subst h2
  cases e with
  | normal => exact hK _ h1
  | exit id => exact ⟨fr', H', h1, rfl⟩
  | goto l => exact ⟨fr', H', h1, rfl⟩
  | ret => exact ⟨fr', H', h1, rfl⟩
  | panic ch => exact ⟨fr', H', h1, rfl⟩
  | outgrown => exact ⟨fr', H', h1, rfl⟩
theorem AWPD.cond {c : Operand} {x y : Code} {b : Bool} (hc : evD 0 fr c = some (.b b)) (ht : b = true → AWPD P C x Q fr H) (hf : b = false → AWPD P C y Q fr H) : AWPD P C (.cond c x y) Q fr H :=
  AWP.cond (evD_av hc) ht hf
/-- With the condition as a proposition. -/
theorem AWPD.condP {c : Operand} {x y : Code} {p : Prop} [Decidable p] (hc : evD 0 fr c = some (.b (decide p))) (ht : p → AWPD P C x Q fr H) (hf : ¬p → AWPD P C y Q fr H) : AWPD P C (.cond c x y) Q fr H :=
  AWP.cond (evD_av hc) (fun h => ht (of_decide_eq_true h)) (fun h => hf (of_decide_eq_false h))
theorem AWPD.block {id : Nat} {c : Code} (h : AWPD P C c (inBlockD id Q) fr H) : AWPD P C (.block id c) Q fr H := by
  refine AWP.block (AWP.mono h fun e s ⟨fr', H', h1, h2⟩ => ?_)
  subst h2
  cases e with
  | exit id' =>
    simp only [inBlockD, inBlockA] at h1 ⊢
    by_cases hid : id' = id
    · subst hid; rw [if_pos rfl]; simp only [Nat.beq_refl, cond_true] at h1; exact ⟨fr', H', h1, rfl⟩
    · rw [if_neg hid]
      have hb : Nat.beq id' id = false := by
        cases hb : Nat.beq id' id with
        | false => rfl
        | true => exact absurd (Nat.eq_of_beq_eq_true hb) hid
      rw [hb] at h1
      exact ⟨fr', H', h1, rfl⟩
  | normal => exact ⟨fr', H', h1, rfl⟩
  | goto l => exact ⟨fr', H', h1, rfl⟩
  | ret => exact ⟨fr', H', h1, rfl⟩
  | panic ch => exact ⟨fr', H', h1, rfl⟩
  | outgrown => exact ⟨fr', H', h1, rfl⟩

/-! ### Regions -/

theorem ARun.mono {ops : Array Oper} {e : Option (List Nat)} {K K' : AS → Prop} (hK : ∀ s, K s → K' s) : ∀ (l : List Oper) (k : Nat) (s : AS), ARun P C ops e k l s K → ARun P C ops e k l s K'
  | [], _, s, h => hK s h
  | o :: rest, k, s, h => by
    unfold ARun at h ⊢
    obtain ⟨hd, h⟩ := h
    refine ⟨hd, ?_⟩
    split at h
    · obtain ⟨av, H', h1, h2, h3⟩ := h
      exact ⟨av, H', h1, h2, ARun.mono hK rest _ _ h3⟩
    · obtain ⟨d, u, h1, h2, h3, h4⟩ := h
      exact ⟨d, u, h1, h2, fun hy => let ⟨av, H', g1, g2, g3⟩ := h3 hy; ⟨av, H', g1, g2, ARun.mono hK rest _ _ g3⟩, fun hn => ARun.mono hK rest _ _ (h4 hn)⟩

def plainF : DF → Bool
  | [] => true
  | (_, d) :: r => plainD d && plainF r
theorem lookD_plain : ∀ {fr : DF}, plainF fr = true → ∀ {t : Nat} {d : DV}, lookD fr t = some d → plainD d = true
  | (k, a) :: r, h, t, d, hl => by
    simp only [plainF, Bool.and_eq_true] at h
    simp only [lookD] at hl
    cases hb : Nat.beq k t with
    | true => rw [hb] at hl; cases hl; exact h.1
    | false => rw [hb] at hl; exact lookD_plain h.2 hl
theorem Fine.start {fr : DF} (h : plainF fr = true) : Fine fr (frA fr) := fun t d hl =>
  ⟨d.av, by rw [frA_look, hl]; rfl, (fine_plain (plainD_ne (lookD_plain h hl)) _).2 rfl⟩
theorem fine_rep {d : DV} {a : AV} (h : fineV d a) {ok : Nat → Prop} {w : World} {V : List Value} {x : Value} (hr : VRep ok w V a x) : VRep ok w V d.av x := by
  by_cases hopt : ∃ g y, d = .opt g y
  · obtain ⟨g, y, rfl⟩ := hopt
    unfold DV.av VRep
    exact fun hg => by rw [h.1 hg] at hr; exact hr
  · have hp : ∀ g x, d ≠ .opt g x := fun g x h => hopt ⟨g, x, h⟩
    rw [(fine_plain hp a).1 h] at hr
    exact hr
theorem Fine.conv {s : AS} {fr' : DF} {H' : List OD} (hF : Fine fr' s.fr) (hH : s.H = H'.map OD.ob) : Conv C s ⟨frA fr', H'.map OD.ob⟩ := fun _ _ _ ⟨V, F, m, hd, hsz, hf⟩ =>
  ⟨V, F, hH ▸ m, hd, hsz, fun t a ht => by
    rw [frA_look] at ht
    cases hl : lookD fr' t with
    | none => rw [hl] at ht; cases ht
    | some d =>
      rw [hl] at ht
      cases ht
      obtain ⟨a', ha, hfi⟩ := hF t d hl
      obtain ⟨x, hx, hr⟩ := hf t a' ha
      exact ⟨x, hx, fine_rep hfi hr⟩⟩

theorem AWPD.region (ok : TabOK P tb) {id : Nat} {l : List Oper} (hp : plainF fr = true) (h : EV P C tb l none 0 l fr H (Q .normal)) : AWPD P C (.region id l.toArray false) Q fr H :=
  AWP.post_conv (AWP.region (ARun.mono (fun _ ⟨fr', H', h1, h2, h3⟩ => ⟨_, h2.conv h3, fr', H', h1, rfl⟩) _ _ _ (EV.sound ok l 0 fr H _ h (Fine.start hp))))
theorem AWPD.draw (ok : TabOK P tb) (e : List Nat) {id : Nat} {l : List Oper} (hp : plainF fr = true) (hdag : dagOK l.toArray e = true) (h : EV P C tb l (some e) 0 l fr H (Q .normal)) : AWPD P C (.region id l.toArray true) Q fr H :=
  AWP.post_conv (AWP.draw e ok.mixed hdag (ARun.mono (fun _ ⟨fr', H', h1, h2, h3⟩ => ⟨_, h2.conv h3, fr', H', h1, rfl⟩) _ _ _ (EV.sound ok l 0 fr H _ h (Fine.start hp))))

/-! ### What is known, told otherwise -/

mutual
def freeD : DV → Bool
  | .ob _ => false
  | .of _ _ _ _ => false
  | .op _ _ => false
  | .bp l _ => freeDs l
  | .tup l => freeDs l
  | .agg l => freeDs l
  | .opt _ d => freeD d
  | .raw a => a.free
  | _ => true
def freeDs : List DV → Bool
  | [] => true
  | d :: l => freeD d && freeDs l
end
mutual
theorem freeD_av : ∀ d : DV, freeD d = true → d.av.free = true
  | .i _, _ => rfl
  | .b _, _ => rfl
  | .er _ _, _ => rfl
  | .nil, _ => rfl
  | .u _, _ => rfl
  | .sl τ xs, _ => by simp only [DV.av, AV.free]; exact frees_flatMap (gT_free τ) xs
  | .fl τ xs k j, _ => by simp only [DV.av, AV.free]; exact frees_flatMap (gT_free τ) xs
  | .bp l c, h => by simp only [DV.av, AV.free]; exact freeDs_av l (by simpa [freeD] using h)
  | .ob _, h => by simp [freeD] at h
  | .of _ _ _ _, h => by simp [freeD] at h
  | .op _ _, h => by simp [freeD] at h
  | .tup l, h => by simp only [DV.av, AV.free]; exact freeDs_av l (by simpa [freeD] using h)
  | .agg l, h => by simp only [DV.av, AV.free]; exact freeDs_av l (by simpa [freeD] using h)
  | .opt _ d, h => by simp only [DV.av, AV.free]; exact freeD_av d (by simpa [freeD] using h)
  | .any, _ => rfl
  | .raw _, h => by simpa [freeD, DV.av] using h
theorem freeDs_av : ∀ l : List DV, freeDs l = true → AV.frees (DV.avs l) = true
  | [], _ => rfl
  | d :: l, h => by
    simp only [freeDs, Bool.and_eq_true] at h
    simp only [DV.avs, AV.frees, freeD_av d h.1, freeDs_av l h.2, Bool.and_self]
end

def eqS (τ' : Ty) (xs : List τ'.T) (τ : Ty) (ys : List τ.T) : Prop := ∃ h : τ' = τ, castL h xs = ys
def matchV (ren : List Nat) : Option DV → DV → Prop
  | some (.ob j), .ob k => ren[k]? = some j
  | some (.op j c'), .op k c => ren[k]? = some j ∧ c' = c
  | some (.bp [.ob j] c'), .bp [.ob k] c => ren[k]? = some j ∧ c' = c
  | some _, .any => True
  | some (.i a), .i b => a = b
  | some (.b a), .b b => a = b
  | some (.er T e), .er T' e' => T = T' ∧ e = e'
  | some (.sl τ' xs), .sl τ ys => eqS τ' xs τ ys
  | some a, b => a = b ∧ freeD b = true
  | none, _ => False
def matchR (ren : List Nat) (fr : DF) : DF → Prop
  | [] => True
  | (t, d) :: r => matchV ren (lookD fr t) d ∧ matchR ren fr r
def matchO : Option OD → OD → Prop
  | some (.row e τ xs), .row e' τ' ys => e = e' ∧ eqS τ xs τ' ys
  | some (.arr e τ xs), .arr e' τ' ys => e = e' ∧ eqS τ xs τ' ys
  | some (.box t l), .box t' l' => t = t' ∧ l = l' ∧ freeDs l' = true
  | some (.cust R), .cust R' => R = R'
  | _, _ => False
def matchH (H : List OD) : List Nat → List OD → Prop
  | [], [] => True
  | j :: ren, o :: H' => matchO (getOD H j) o ∧ matchH H ren H'
  | _, _ => False

theorem matchH_sub {H : List OD} : ∀ {ren : List Nat} {H' : List OD}, matchH H ren H' → subH (H.map OD.ob) ren (H'.map OD.ob)
  | [], [], _ => trivial
  | j :: ren, o :: H', h => by
    refine ⟨?_, matchH_sub h.2⟩
    have h1 := h.1
    unfold matchO at h1
    split at h1
    · rename_i hg
      obtain ⟨rfl, rfl, rfl⟩ := h1
      refine ⟨getOD_map hg, ?_⟩
      simp only [OD.ob, Ob.free]
      exact frees_flatMap (gT_free _) _
    · rename_i hg
      obtain ⟨rfl, rfl, rfl⟩ := h1
      refine ⟨getOD_map hg, ?_⟩
      simp only [OD.ob, Ob.free]
      exact frees_flatMap (gT_free _) _
    · rename_i hg
      obtain ⟨rfl, rfl, hfr⟩ := h1
      refine ⟨getOD_map hg, ?_⟩
      simp only [OD.ob, Ob.free]
      exact freeDs_av _ hfr
    · rename_i hg
      subst h1
      exact ⟨getOD_map hg, rfl⟩
    · cases h1
  | [], _ :: _, h => h.elim
  | _ :: _, [], h => h.elim

theorem free_case {ren : List Nat} {f : Fr} {t : Nat} {a : AV} {r : Fr} (h : a.free = true ∧ look f t = some a) (hr : subR ren f r) : subR ren f ((t, a) :: r) := by
  cases a with
  | ob k => simp [AV.free] at h
  | op k c => simp [AV.free] at h
  | rp cs c =>
    rw [subR_rp (fun k e => by subst e; simp [AV.free, AV.frees] at h)]
    exact ⟨h, hr⟩
  | _ => exact ⟨h, hr⟩
theorem matchR_sub {ren : List Nat} {fr : DF} : ∀ {fr' : DF}, matchR ren fr fr' → ∃ fr2 : Fr, subR ren (frA fr) fr2 ∧ ∀ t a, look (frA fr') t = some a → look fr2 t = some a ∨ (a = .top ∧ ∃ b, look (frA fr) t = some b)
  | [], _ => ⟨[], trivial, fun t a h => by cases h⟩
  | (t, d) :: r, h => by
    obtain ⟨h1, h2⟩ := h
    obtain ⟨fr2, g1, g2⟩ := matchR_sub h2
    have keep : ∀ (a : AV), subR ren (frA fr) ((t, a) :: fr2) → d.av = a → ∃ fr2 : Fr, subR ren (frA fr) fr2 ∧ ∀ t' a, look (frA ((t, d) :: r)) t' = some a → look fr2 t' = some a ∨ (a = .top ∧ ∃ b, look (frA fr) t' = some b) := fun a hs hd => by
      refine ⟨(t, a) :: fr2, hs, fun t' a' ht' => ?_⟩
      simp only [frA, look] at ht' ⊢
      cases hb : Nat.beq t t' with
      | true => rw [hb] at ht'; cases ht'; left; rw [hd]; rfl
      | false =>
        rw [hb] at ht'
        exact g2 t' a' ht'
    unfold matchV at h1
    split at h1
    · rename_i j k hl
      exact keep (.ob k) ⟨⟨j, h1, by rw [frA_look, hl]; rfl⟩, g1⟩ rfl
    · rename_i j c' k c hl
      obtain ⟨h1, rfl⟩ := h1
      exact keep (.op k c') ⟨⟨j, h1, by rw [frA_look, hl]; rfl⟩, g1⟩ rfl
    · rename_i j c' k c hl
      obtain ⟨h1, rfl⟩ := h1
      exact keep (.rp [.ob k] c') ⟨⟨j, h1, by rw [frA_look, hl]; rfl⟩, g1⟩ rfl
    · rename_i a hl
      refine ⟨fr2, g1, fun t' a' ht' => ?_⟩
      simp only [frA, look] at ht'
      cases hb : Nat.beq t t' with
      | true =>
        rw [hb] at ht'
        cases ht'
        have := Nat.eq_of_beq_eq_true hb
        subst this
        exact .inr ⟨rfl, _, by rw [frA_look, hl]; rfl⟩
      | false =>
        rw [hb] at ht'
        exact g2 t' a' ht'
    · rename_i hl; subst h1; exact keep _ (free_case ⟨rfl, by rw [frA_look, hl]; rfl⟩ g1) rfl
    · rename_i hl; subst h1; exact keep _ (free_case ⟨rfl, by rw [frA_look, hl]; rfl⟩ g1) rfl
    · rename_i hl; obtain ⟨rfl, rfl⟩ := h1; exact keep _ (free_case ⟨rfl, by rw [frA_look, hl]; rfl⟩ g1) rfl
    · rename_i τ' xs τ ys hl
      obtain ⟨rfl, rfl⟩ := h1
      exact keep _ (free_case ⟨freeD_av (.sl τ' xs) rfl, by rw [frA_look, hl]; rfl⟩ g1) rfl
    · rename_i a b hl _ _ _ _ _ _ _ _
      obtain ⟨rfl, hfr⟩ := h1
      exact keep _ (free_case ⟨freeD_av _ hfr, by rw [frA_look, hl]; rfl⟩ g1) rfl
    · cases h1

theorem Conv.matchD {fr' : DF} {H' : List OD} (ren : List Nat) (hC : carB C.V0 ren = true) (hnd : ren.Nodup) (hH : matchH H ren H') (hF : matchR ren fr fr') : Conv C ⟨frA fr, H.map OD.ob⟩ ⟨frA fr', H'.map OD.ob⟩ := fun rd a w hr => by
  obtain ⟨fr2, h1, h2⟩ := matchR_sub hF
  obtain ⟨V', F', m, hd, hsz, hf⟩ := Conv.ren ren hC hnd (matchH_sub hH) h1 rd a w hr
  refine ⟨V', F', m, hd, hsz, fun t b hb => ?_⟩
  rcases h2 t b hb with h | ⟨rfl, c, hc⟩
  · exact hf t b h
  · obtain ⟨V, F, _, _, _, hf0⟩ := hr
    obtain ⟨x, hx, _⟩ := hf0 t c hc
    exact ⟨x, hx, by unfold VRep; trivial⟩
/-- What is known, told otherwise: a smaller frame, equal values, objects renamed. -/
theorem AWPD.to {c : Code} (ren : List Nat) (fr' : DF) (H' : List OD) (hC : carB C.V0 ren = true) (hnd : ren.Nodup) (hH : matchH H ren H') (hF : matchR ren fr fr') (h : AWPD P C c Q fr' H') : AWPD P C c Q fr H :=
  AWP.conv (Conv.matchD ren hC hnd hH hF) h

/-- The entries that are kept, the slots being told. -/
def keepF (fr : DF) : List Nat → DF → Option DF
  | [], acc => some acc
  | t :: r, acc => match lookD fr t with
    | some d => keepF fr r ((t, d) :: acc)
    | none => none
theorem keepF_look {fr : DF} : ∀ {ts : List Nat} {acc fr' : DF}, keepF fr ts acc = some fr' → (∀ t d, lookD acc t = some d → lookD fr t = some d) → ∀ t d, lookD fr' t = some d → lookD fr t = some d
  | [], acc, fr', h, ha => by cases h; exact ha
  | t :: r, acc, fr', h, ha => by
    simp only [keepF] at h
    cases hl : lookD fr t with
    | none => rw [hl] at h; cases h
    | some d =>
      rw [hl] at h
      refine keepF_look h fun t' d' h' => ?_
      simp only [lookD] at h'
      cases hb : Nat.beq t t' with
      | true => rw [hb] at h'; cases h'; rw [← Nat.eq_of_beq_eq_true hb]; exact hl
      | false => rw [hb] at h'; exact ha t' d' h'
theorem AWPD.keep {c : Code} (ts : List Nat) {fr' : DF} (hk : keepF fr ts [] = some fr') (h : AWPD P C c Q fr' H) : AWPD P C c Q fr H :=
  AWP.conv (s' := ⟨frA fr', H.map OD.ob⟩) (fun _ _ _ ⟨V, F, m, hd, hsz, hf⟩ => ⟨V, F, m, hd, hsz, fun t a ht => hf t a (by
    show look (frA fr) t = some a
    have ht : look (frA fr') t = some a := ht
    rw [frA_look] at ht ⊢
    cases hl : lookD fr' t with
    | none => rw [hl] at ht; cases ht
    | some d =>
      rw [hl] at ht
      rw [keepF_look hk (fun _ _ h => by cases h) t d hl]
      exact ht)⟩) h
/-- A nil slice is one of the call's own, without elements. -/
theorem AWPD.nilRow {c : Code} (t : Nat) (e : TypeId) (τ : Ty) (hl : lookD fr t = some .nil) (hs : 0 < τ.size) (h : AWPD P C c Q ((t, .ob (lenOD H)) :: fr) (H ++ [.row e τ []])) : AWPD P C c Q fr H := by
  refine AWP.conv (Conv.nilRow (a := t) (e := e) (size := τ.size) (by rw [frA_look, hl]; rfl) hs) ?_
  have h' := h
  unfold AWPD at h'
  rw [List.map_append] at h'
  simpa [frA, DV.av, lenOD_map, OD.ob] using h'
/-- A slice of the call's own, from here on only read. -/
theorem AWPD.freeze {c : Code} (t : Nat) {i : Nat} {e : TypeId} {τ : Ty} {xs : List τ.T} (hC : C.F0 = []) (hl : lookD fr t = some (.ob i)) (hH : getOD H i = some (.row e τ xs)) (h : AWPD P C c Q ((t, .sl τ xs) :: fr) (setOD H i .dead)) : AWPD P C c Q fr H := by
  refine AWP.conv (Conv.freeze (a := t) hC (by rw [frA_look, hl]; rfl) (getOD_map hH) (frees_flatMap (gT_free τ) xs)) ?_
  have h' := h
  unfold AWPD at h'
  rw [setOD_map] at h'
  exact h'

/-- A struct of the call's own, from here on only read. -/
theorem AWPD.freezeB {c : Code} (t : Nat) {i : Nat} {T : TypeId} {l : List DV} (hC : C.F0 = []) (hl : lookD fr t = some (.op i 0)) (hH : getOD H i = some (.box T l)) (hfree : AV.frees (DV.avs l) = true) (h : AWPD P C c Q ((t, .bp l 0) :: fr) (setOD H i .dead)) : AWPD P C c Q fr H := by
  refine AWP.conv (Conv.freezeB (a := t) hC (by rw [frA_look, hl]; rfl) (getOD_map hH) hfree) ?_
  have h' := h
  unfold AWPD at h'
  rw [setOD_map] at h'
  exact h'

/-- A LOOP: 'I n s': in the state s at most n rounds are to come. -/
def atD {σ : Type} (V0 : List Value) (F : σ → DF) (Hs : σ → List OD) (I : Nat → σ → Prop) (n : Nat) (fr : DF) (H : List OD) : Prop := ∃ m s ren, m < n ∧ I m s ∧ (List.Nodup ren ∧ carB V0 ren = true) ∧ matchH H ren (Hs s) ∧ matchR ren fr (F s)
theorem AWPD.loop {σ : Type} {c : Code} (F : σ → DF) (Hs : σ → List OD) (I : Nat → σ → Prop) (n : Nat) (s0 : σ) (ren : List Nat) (hC : carB C.V0 ren = true) (h0 : I n s0) (hnd : ren.Nodup) (hH : matchH H ren (Hs s0)) (hF : matchR ren fr (F s0))
    (hround : ∀ n s, I n s → AWPD P C c (thenD (atD C.V0 F Hs I n) Q) (F s) (Hs s)) : AWPD P C (.loop c) Q fr H := by
  refine AWP.conv (Conv.matchD ren hC hnd hH hF) ?_
  refine AWP.loop (fun n s' => ∃ s, I n s ∧ s' = ⟨frA (F s), (Hs s).map OD.ob⟩) n ⟨s0, h0, rfl⟩ fun n s' ⟨s, hI, hs⟩ => ?_
  subst hs
  refine AWP.post_conv (AWP.mono (hround n s hI) fun e s' ⟨fr', H', h1, h2⟩ => ?_)
  subst h2
  have self : Conv C ⟨frA fr', H'.map OD.ob⟩ ⟨frA fr', H'.map OD.ob⟩ := fun _ _ _ h => h
  cases e with
  | normal =>
    obtain ⟨m, s2, ren2, g1, g2, g3, g4, g5⟩ := h1
    exact ⟨_, Conv.matchD ren2 g3.2 g3.1 g4 g5, m, g1, s2, g2, rfl⟩
  | exit id => exact ⟨_, self, fr', H', h1, rfl⟩
  | goto l => exact ⟨_, self, fr', H', h1, rfl⟩
  | ret => exact ⟨_, self, fr', H', h1, rfl⟩
  | panic ch => exact ⟨_, self, fr', H', h1, rfl⟩
  | outgrown => exact ⟨_, self, fr', H', h1, rfl⟩

/-! ### Contracts -/

def LiftsD (P : Program) (f : FuncId) (as : List DV) (r : DV) : Prop := Lifts P f (DV.avs as) [] r.av []
def snapD (H : List OD) : DV → Option DV
  | .ob k => match getOD H k with
    | some (.row _ τ xs) => some (.sl τ xs)
    | _ => none
  | .i n => some (.i n)
  | .b x => some (.b x)
  | .er T e => some (.er T e)
  | .nil => some .nil
  | .u v => some (.u v)
  | .sl τ xs => some (.sl τ xs)
  | .agg l => bif freeDs l then some (.agg l) else none
  | _ => none
def snapLD (H : List OD) : List DV → Option (List DV)
  | [] => some []
  | d :: l => match snapD H d with
    | some b => match snapLD H l with
      | some r => some (b :: r)
      | none => none
    | none => none
theorem snapD_snapA {d b : DV} (h : snapD H d = some b) : snapA (H.map OD.ob) d.av = some b.av := by
  unfold snapD at h
  split at h
  · split at h
    · rename_i hg
      cases h
      simp only [DV.av, snapA, getOD_map hg, OD.ob]
      rw [if_pos (frees_flatMap (gT_free _) _)]
    · cases h
  · cases h; rfl
  · cases h; rfl
  · cases h; rfl
  · cases h; rfl
  · cases h; rfl
  · rename_i τ xs
    cases h
    have := freeD_av (.sl τ xs) rfl
    simp only [DV.av] at this ⊢
    simp only [snapA, this, if_true]
  · rename_i l
    obtain ⟨h1, h2⟩ := bif_some h
    cases h2
    have := freeD_av (.agg l) (by simpa [freeD] using h1)
    simp only [DV.av] at this ⊢
    simp only [snapA, this, if_true]
  · cases h
theorem snapLD_snapL : ∀ {l r : List DV}, snapLD H l = some r → snapL (H.map OD.ob) (DV.avs l) = some (DV.avs r)
  | [], r, h => by cases h; rfl
  | d :: l, r, h => by
    simp only [snapLD] at h
    cases h1 : snapD H d with
    | none => rw [h1] at h; cases h
    | some b =>
      rw [h1] at h
      cases h2 : snapLD H l with
      | none => rw [h2] at h; cases h
      | some q =>
        rw [h2] at h
        cases h
        simp only [DV.avs, snapL, snapD_snapA h1, snapLD_snapL h2]

/-- What fits as what: nil as an empty slice; equals as equals. -/
def fitD : DV → DV → Prop
  | .nil, .sl τ xs => xs = [] ∧ 0 < τ.size
  | .sl τ' xs', .sl τ xs => eqS τ' xs' τ xs
  | .i a, .i b => a = b
  | .b a, .b b => a = b
  | .er T e, .er T' e' => T = T' ∧ e = e'
  | _, .any => True
  | a, b => a = b
theorem fitD_rep {d r : DV} (h : fitD d r) {ok : Nat → Prop} {w : World} {V : List Value} {x : Value} (hr : VRep ok w V d.av x) : VRep ok w V r.av x := by
  unfold fitD at h
  split at h
  · obtain ⟨rfl, hs⟩ := h
    have hr := VRep.v_iff.1 hr
    subst hr
    unfold DV.av VRep
    exact ⟨hs, none, 0, 0, rfl, by simp, Nat.le_refl _, Nat.zero_le _, fun hne => absurd rfl hne⟩
  · obtain ⟨rfl, rfl⟩ := h; exact hr
  · subst h; exact hr
  · subst h; exact hr
  · obtain ⟨rfl, rfl⟩ := h; exact hr
  · unfold DV.av VRep; trivial
  · subst h; exact hr

def fitO (H : List OD) : Option DV → DV → Prop
  | some d, r => match snapD H d with
    | some s => fitD s r
    | none => False
  | none, _ => False
/-- What a function gives back, out of its frame and its objects. -/
def RetD (fr : DF) (H : List OD) : List ResultVar → DV → Prop
  | [.tmp t], r => fitO H (lookD fr t) r
  | [.tmp t, .tmp u], .tup [r1, r2] => fitO H (lookD fr t) r1 ∧ fitO H (lookD fr u) r2
  | [.tmp t, .tmp u, .tmp v], .tup [r1, r2, r3] => fitO H (lookD fr t) r1 ∧ fitO H (lookD fr u) r2 ∧ fitO H (lookD fr v) r3
  | _, _ => False

theorem fitO_rep {V : List Value} {F : List (List Nat)} {w : World} {a : Act} (m : Mem C (H.map OD.ob) V F w) (hf : Frm C (frA fr) V F a w) {ok' : Nat → Prop} (hok : ∀ b, okB C w F b → ok' b) (hF : ∀ f ∈ F, ∀ b ∈ f, ok' b) {t : Nat} {r : DV} (h : fitO H (lookD fr t) r) : VRep ok' w [] r.av (a.tmps.getD t undef) := by
  unfold fitO at h
  split at h
  · rename_i d hl
    split at h
    · rename_i s hs
      obtain ⟨x, hx, hr⟩ := hf t d.av (by rw [frA_look, hl]; rfl)
      have : a.tmps.getD t undef = x := by simp [hx]
      rw [this]
      exact fitD_rep h (snapA_rep m hok hF (snapD_snapA hs) hr)
    · cases h
  · cases h
theorem RetD_rep {fn : Func} {l : List ResultVar} {r : DV} (hl : fn.results.toList = l) {V : List Value} {F : List (List Nat)} {w : World} {a : Act} (m : Mem C (H.map OD.ob) V F w) (hf : Frm C (frA fr) V F a w) {ok' : Nat → Prop} (hok : ∀ b, okB C w F b → ok' b) (hF : ∀ f ∈ F, ∀ b ∈ f, ok' b) (h : RetD fr H l r) :
    ∃ u, (results fn a.tmps).run P w = .ok u w ∧ VRep ok' w [] r.av u := by
  have hl' : fn.results = l.toArray := by rw [← hl]
  unfold RetD at h
  split at h
  · exact ⟨_, results_tmp hl' _ _ _, fitO_rep m hf hok hF h⟩
  · refine ⟨_, results_tmp2 hl' _ _ _, ?_⟩
    simp only [DV.av, DV.avs]
    unfold VRep VReps VReps VReps
    exact ⟨_, rfl, _, _, rfl, fitO_rep m hf hok hF h.1, _, _, rfl, fitO_rep m hf hok hF h.2, rfl⟩
  · rename_i t u v r1 r2 r3
    refine ⟨.tuple #[a.tmps.getD t undef, a.tmps.getD u undef, a.tmps.getD v undef], by simp [results, hl'], ?_⟩
    simp only [DV.av, DV.avs]
    unfold VRep VReps VReps VReps VReps
    exact ⟨_, rfl, _, _, rfl, fitO_rep m hf hok hF h.1, _, _, rfl, fitO_rep m hf hok hF h.2.1, _, _, rfl, fitO_rep m hf hok hF h.2.2, rfl⟩
  · cases h

/-- A result that is kept in a struct of the call's own. -/
def RetC (P : Program) (fr : DF) (H : List OD) (t : Nat) (T : TypeId) (r : DV) : Prop :=
  ∃ n tB l s, lookD fr t = some (.op n 0) ∧ getOD H n = some (.box tB l) ∧ AggT P T (lenL l) ∧ snapD H (.agg l) = some s ∧ fitD s r
theorem results_cell {fn : Func} {t : Nat} {T : TypeId} {tmps : Array Value} {w : World} {u v : Value} {ad : Addr} (hl : fn.results = #[.cell t T]) (hu : tmps.getD t undef = u) (ha : (asAddr u).run P w = .ok ad w) (hv : (loadVar T ad).run P w = .ok v w) : (results fn tmps).run P w = .ok v w := by
  have hu' : tmps[t]?.getD undef = u := by rw [← hu]; simp
  unfold results
  rw [hl]
  simp [hu', ha, hv]
theorem RetC_rep {fn : Func} {t : Nat} {T : TypeId} {r : DV} (hl : fn.results.toList = [.cell t T]) {V : List Value} {F : List (List Nat)} {w : World} {a : Act} (m : Mem C (H.map OD.ob) V F w) (hf : Frm C (frA fr) V F a w) {ok' : Nat → Prop} (hok : ∀ b, okB C w F b → ok' b) (hF : ∀ f ∈ F, ∀ b ∈ f, ok' b) (h : RetC P fr H t T r) :
    ∃ u, (results fn a.tmps).run P w = .ok u w ∧ VRep ok' w [] r.av u := by
  obtain ⟨n, tB, l, s, h1, h2, hT, h3, h4⟩ := h
  have hl' : fn.results = #[.cell t T] := by rw [← hl]
  obtain ⟨x, hx, hr⟩ := hf t (.op n 0) (by rw [frA_look, h1]; rfl)
  have e0 : a.tmps.getD t undef = x := by simp [hx]
  have hH := getOD_map h2
  obtain ⟨y, f, hy, hff, hro⟩ := m.get hH
  have h1' := hr
  unfold VRep at h1'
  obtain ⟨ad, hb, hu⟩ := h1'
  rw [hy] at hb
  obtain ⟨us, hus, hcell⟩ := ob_cells (cs := DV.avs l) rfl hro hb
  have hlen : us.length = lenL l := by rw [hus.length, DV.avs_map, List.length_map, lenL_eq]
  have hv : VRep (okB C w F) w V (.agg (DV.avs l)) (.agg us.toArray) := by unfold VRep; exact ⟨_, rfl, by simpa using hus⟩
  refine ⟨.agg us.toArray, results_cell hl' e0 (ad := ad.add 0) (by rw [hu]; rfl) ?_, fitD_rep h4 (snapA_rep m hok hF (snapD_snapA h3) hv)⟩
  rw [run_loadVar_agg (by rw [hlen]; exact hT) fun j u hj => ?_]
  rw [add_add]
  have := hcell j u hj
  simpa using this

def argD : Nat → List DV → DF
  | _, [] => []
  | k, a :: r => (k, a) :: argD (k + 1) r
theorem argD_frA : ∀ (l : List DV) (k : Nat), frA (argD k l) = argsF k (DV.avs l)
  | [], _ => rfl
  | a :: l, k => by simp only [argD, frA, DV.avs, argsF, argD_frA l (k + 1)]

/-- THE CONTRACT OUT OF THE BODY. -/
theorem LiftsD.of_body {f : FuncId} {fn : Func} {c : Code} {as : List DV} {r : DV} (N : Nat) (l : List ResultVar) (hf : P.funcs[f]? = some fn) (hb : fn.body = some c) (hN : fn.ntmps = N) (hname : (fn.name == "runtime.NumGoroutine") = false)
    (hn : Nat.ble (lenL as) N = true) (hl : fn.results.toList = l)
    (h : ∀ (w0 : World) (X0 : Nat → Prop), AWPD P ⟨w0, X0, [], [], N⟩ c (fun e fr H => (e = .ret ∨ e = .normal) ∧ RetD fr H l r) (argD 0 as) []) : LiftsD P f as r := by
  subst hN
  refine ⟨⟨fn, hf, hname, by rw [hb]; rfl⟩, fun w X V F vs m hvs => ?_⟩
  have h1 : V = [] := List.eq_nil_of_length_eq_zero m.lenV
  have h2 : F = [] := List.eq_nil_of_length_eq_zero m.lenF
  subst h1 h2
  have hlen : vs.size = as.length := by have := hvs.length; rw [avs_len] at this; simpa using this
  have hn' : as.length ≤ fn.ntmps := by rw [← lenL_eq]; exact Nat.le_of_ble_eq_true hn
  let C : Ctx := ⟨w, X, [], [], fn.ntmps⟩
  have m0 : Mem C [] [] [] w := Mem.start w X fn.ntmps
  refine calls_of_AWP hf hb (h w X) ⟨[], [], m0, DefOK.nil _ _ _, by simp [hlen]; omega, fun t av ht => ?_⟩ fun e a' w' ⟨s', ⟨fr', H', ⟨he, hr⟩, hs⟩, V', F', m', hdef, hsz, hfr⟩ => ?_
  · simp only [argD_frA] at ht
    obtain ⟨_, h2⟩ := argsF_look _ 0 t av ht
    obtain ⟨x, hx, hv⟩ := hvs.get _ _ h2
    refine ⟨x, ?_, hv⟩
    have hlt : t < vs.size := by
      have := (List.getElem?_eq_some_iff.1 hx).1
      simpa using this
    rw [Array.getElem?_append_left hlt]
    simpa using hx
  · subst hs
    obtain ⟨u, hu, hv⟩ := RetD_rep (P := P) hl m' hfr (ok' := okB ⟨w, X, [], [], 0⟩ w' []) (fun b hb => ⟨hb.1, hb.2.1, by simp⟩)
      (fun f hf b hb => ⟨.inr (by rcases (m'.own f hf b hb).2 with h | h <;> first | exact h | simp at h), (m'.own f hf b hb).1, by simp⟩) hr
    have fin : ∃ v, (results fn a'.tmps).run P w' = .ok v w' ∧ ∃ u, (Ending.returned v) = .returned u ∧ Out ⟨w, X, [], [], 0⟩ [] r.av [] [] w u w' := by
      obtain ⟨m2, e2⟩ := (Mem.start w X 0).more m'.os m'.tape m'.output m'.size (fun b hb => m'.kept b hb (by simp))
      exact ⟨u, hu, u, rfl, [], [], m2, e2, hv⟩
    exact ⟨he, fin⟩

/-- The same, of a result that is kept in a struct of the call's own. -/
theorem LiftsD.of_bodyC {f : FuncId} {fn : Func} {c : Code} {as : List DV} {r : DV} (N t : Nat) (T : TypeId) (hf : P.funcs[f]? = some fn) (hb : fn.body = some c) (hN : fn.ntmps = N) (hname : (fn.name == "runtime.NumGoroutine") = false)
    (hn : Nat.ble (lenL as) N = true) (hl : fn.results.toList = [.cell t T])
    (h : ∀ (w0 : World) (X0 : Nat → Prop), AWPD P ⟨w0, X0, [], [], N⟩ c (fun e fr H => (e = .ret ∨ e = .normal) ∧ RetC P fr H t T r) (argD 0 as) []) : LiftsD P f as r := by
  subst hN
  refine ⟨⟨fn, hf, hname, by rw [hb]; rfl⟩, fun w X V F vs m hvs => ?_⟩
  have h1 : V = [] := List.eq_nil_of_length_eq_zero m.lenV
  have h2 : F = [] := List.eq_nil_of_length_eq_zero m.lenF
  subst h1 h2
  have hlen : vs.size = as.length := by have := hvs.length; rw [avs_len] at this; simpa using this
  have hn' : as.length ≤ fn.ntmps := by rw [← lenL_eq]; exact Nat.le_of_ble_eq_true hn
  let C : Ctx := ⟨w, X, [], [], fn.ntmps⟩
  have m0 : Mem C [] [] [] w := Mem.start w X fn.ntmps
  refine calls_of_AWP hf hb (h w X) ⟨[], [], m0, DefOK.nil _ _ _, by simp [hlen]; omega, fun t av ht => ?_⟩ fun e a' w' ⟨s', ⟨fr', H', ⟨he, hr⟩, hs⟩, V', F', m', hdef, hsz, hfr⟩ => ?_
  · simp only [argD_frA] at ht
    obtain ⟨_, h2⟩ := argsF_look _ 0 t av ht
    obtain ⟨x, hx, hv⟩ := hvs.get _ _ h2
    refine ⟨x, ?_, hv⟩
    have hlt : t < vs.size := by
      have := (List.getElem?_eq_some_iff.1 hx).1
      simpa using this
    rw [Array.getElem?_append_left hlt]
    simpa using hx
  · subst hs
    obtain ⟨u, hu, hv⟩ := RetC_rep (P := P) hl m' hfr (ok' := okB ⟨w, X, [], [], 0⟩ w' []) (fun b hb => ⟨hb.1, hb.2.1, by simp⟩)
      (fun f hf b hb => ⟨.inr (by rcases (m'.own f hf b hb).2 with h | h <;> first | exact h | simp at h), (m'.own f hf b hb).1, by simp⟩) hr
    have fin : ∃ v, (results fn a'.tmps).run P w' = .ok v w' ∧ ∃ u, (Ending.returned v) = .returned u ∧ Out ⟨w, X, [], [], 0⟩ [] r.av [] [] w u w' := by
      obtain ⟨m2, e2⟩ := (Mem.start w X 0).more m'.os m'.tape m'.output m'.size (fun b hb => m'.kept b hb (by simp))
      exact ⟨u, hu, u, rfl, [], [], m2, e2, hv⟩
    exact ⟨he, fin⟩

/-! ### Calls -/

def memD (d : DV) : Bool := match d with
  | .i _ => true
  | .b _ => true
  | .er _ _ => true
  | .nil => true
  | .u _ => true
  | _ => false
def memDs : List DV → Bool
  | [] => true
  | d :: l => memD d && memDs l
/-- It holds no memory. -/
def flatD : DV → Bool
  | .tup l => memDs l
  | .agg l => memDs l
  | d => memD d
theorem memDs_flat : ∀ l : List DV, memDs l = true → AV.flats (DV.avs l) = true
  | [], _ => rfl
  | d :: l, h => by
    simp only [memDs, Bool.and_eq_true] at h
    have h2 := memDs_flat l h.2
    have h1 : d.av.flat = true := by cases d <;> first | rfl | (simp [memD] at h)
    simp only [DV.avs, AV.flats, h1, h2, Bool.and_self]
theorem flatD_flat : ∀ d : DV, flatD d = true → d.av.flat = true := by
  intro d h
  cases d with
  | tup l => simp only [DV.av, AV.flat]; exact memDs_flat l h
  | agg l => simp only [DV.av, AV.flat]; exact memDs_flat l h
  | _ => first | rfl | (simp [flatD, memD] at h)

variable {o : Oper} {f : FuncId} {args : Array Operand} {ats : Array TypeId} {ds as : List DV} {r : DV}
/-- A call whose arguments are no memory of the caller's own. -/
theorem StepD.call {d : Option Nat} {t : TypeId} {p : String} {af : Array Edge} {g : Option (Nat × Bool)} (hfn : LiftsD P f as r) (hargs : evsD (evS tb.E fr) args.toList = some as) (hfree : freeDs as = true) (hr : freeD r = true) :
    StepD P C tb fr ⟨d, .call { callee := .value (.func f), args := args, argTypes := ats }, t, p, af, g⟩ H r H := fun _ hρ =>
  VStep.call (hρ.1 (.func f) _ rfl) (evsD_evs hρ hargs) hfn (freeDs_av _ hfree) (freeD_av _ hr)
/-- A call that is handed slices of the caller's own to read, and gives back no memory. -/
theorem StepD.callS {d : Option Nat} {t : TypeId} {p : String} {af : Array Edge} {g : Option (Nat × Bool)} (hfn : LiftsD P f as r) (hargs : evsD (evS tb.E fr) args.toList = some ds) (hs : snapLD H ds = some as) (hr : flatD r = true) :
    StepD P C tb fr ⟨d, .call { callee := .value (.func f), args := args, argTypes := ats }, t, p, af, g⟩ H r H := fun _ hρ =>
  VStep.callS (hρ.1 (.func f) _ rfl) (evsD_evs hρ hargs) (snapLD_snapL hs) hfn (flatD_flat _ hr)

def fitDs : List DV → List DV → Prop
  | [], [] => True
  | d :: l, r :: k => fitD d r ∧ fitDs l k
  | _, _ => False
theorem fitDs_rep {ok : Nat → Prop} {w : World} {V : List Value} : ∀ {l k : List DV} {us : List Value}, fitDs l k → VReps ok w V (DV.avs l) us → VReps ok w V (DV.avs k) us
  | [], [], _, _, h => h
  | d :: l, r :: k, us, hf, h => by
    simp only [DV.avs] at h ⊢
    unfold VReps at h ⊢
    obtain ⟨u, q, rfl, h1, h2⟩ := h
    exact ⟨u, q, rfl, fitD_rep hf.1 h1, fitDs_rep hf.2 h2⟩
  | [], _ :: _, _, h, _ => h.elim
  | _ :: _, [], _, h, _ => h.elim
/-- A contract for arguments that fit (nil for an empty slice). -/
theorem LiftsD.fit (hfn : LiftsD P f as r) (hf : fitDs ds as) : LiftsD P f ds r :=
  ⟨hfn.1, fun w X V F vs m hvs => hfn.2 w X V F vs m (fitDs_rep hf hvs)⟩
end
end Go.Qw
