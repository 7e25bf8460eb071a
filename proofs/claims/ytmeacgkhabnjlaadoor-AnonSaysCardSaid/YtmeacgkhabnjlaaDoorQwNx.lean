/-
  'next' over a map that counts: all is met, or one that was not met comes out. No program is named here.
-/
import Derived.Test.YtmeacgkhabnjlaaDoorQwMq
import Derived.Test.YtmeacgkhabnjlaaDoorQwXo
set_option linter.unusedSimpArgs false
set_option linter.unusedVariables false
set_option linter.unusedSectionVars false
namespace Go.Qw
open Go.RowKit

section
variable {P : Program} {C : Ctx} {tb : Tab}
theorem AWPD.nextR (ok : TabOK P tb) {id d1 n i : Nat} {x : Operand} {t : TypeId} {p : String} {af : Array Edge} {rest : List Oper} {ys : List CE} {seen : List Nat} {Q : Exit → DF → List OD → Prop} {fr : DF} {H : List OD} (hp : plainF fr = true)
    (hd : Nat.blt d1 C.N = true) (hx : evD tb.E fr x = some (.ob i)) (hH : getOD H i = some (.cust (iterR n ys seen)))
    (h0 : (∀ j, j < ys.length → j ∈ seen) → EV P C tb (⟨some d1, .next x false, t, p, af, none⟩ :: rest) none 1 rest (putD fr (some d1) (.tup [.b false])) H (Q .normal))
    (h1 : ∀ j y, ys[j]? = some y → j ∉ seen → EV P C tb (⟨some d1, .next x false, t, p, af, none⟩ :: rest) none 1 rest (putD fr (some d1) (.tup [.b true, .any, .i y.2])) (setOD H i (.cust (iterR n ys (seen ++ [j])))) (Q .normal)) :
    AWPD P C (.region id (⟨some d1, .next x false, t, p, af, none⟩ :: rest : List Oper).toArray false) Q fr H := fun rd a w hr => by
  refine wpIn_region_lit ?_
  obtain ⟨V, F, m, hdef, hsz, hf⟩ := hr
  have hx1 : ev (frA fr) x = some (.ob i) := by
    obtain ⟨av, h1, h2⟩ := (Fine.start hp).ev hx
    have h2 : av = .ob i := h2
    rw [h1, h2]
  have hx2 : a.eval x = (V[i]?).getD undef := by
    have := hf.ev hx1
    unfold VRep at this
    rw [this]; rfl
  have hd' : d1 < C.N := by simpa [Nat.blt_eq] using hd
  have go : ∀ (av : DV) (H' : List OD), plainD av = true → EV P C tb (⟨some d1, .next x false, t, p, af, none⟩ :: rest) none 1 rest (putD fr (some d1) av) H' (Q .normal) → Does P C ⟨some d1, .next x false, t, p, af, none⟩ a.eval (H'.map OD.ob) av.av V F w →
      wpListIn (wideR rd) 0 P (⟨some d1, .next x false, t, p, af, none⟩ :: rest : List Oper).toArray (fun e a' w' => ∃ s', (∃ fr' H', Q e fr' H' ∧ s' = ⟨frA fr', H'.map OD.ob⟩) ∧ Rel rd C s' a' w') (⟨some d1, .next x false, t, p, af, none⟩ :: rest) a w := fun av H' hav hev hdo => by
    refine wpListIn_step fun K hK => ?_
    rw [if_pos (by simp [Region.wanted])]
    refine hdo.wp fun u w' ⟨V', F', m', he, hu⟩ => hK _ _ ?_
    have hrel : Rel rd C ⟨putF (frA fr) (some d1) av.av, H'.map OD.ob⟩ (a.put (some d1) u) w' := ⟨V', F', m', hdef.ext he, by simp [Act.put, hsz], (hf.ext he).put (some d1) (fun k hk => by rw [hsz]; cases hk; exact hd') hu⟩
    exact ARun.sound rest 1 _ _ (EV.sound ok rest 1 _ H' _ hev ((Fine.start hp).put (some d1) ((fine_plain (plainD_ne hav) _).2 rfl))) _ w' hrel fun s' a'' w'' ⟨fr', H'', k1, k2, k3⟩ hr2 => ⟨_, ⟨fr', H'', k1, rfl⟩, (k2.conv k3) rd a'' w'' hr2⟩
  rcases next_does (P := P) (C := C) (d := some d1) (t := t) (p := p) (af := af) (g := none) m hx2 (getOD_map hH) with ⟨hall, hdo⟩ | ⟨j, y, hy, hj, hdo⟩
  · exact go (.tup [.b false]) H rfl (h0 hall) hdo
  · exact go (.tup [.b true, .any, .i y.2]) (setOD H i (.cust (iterR n ys (seen ++ [j])))) rfl (h1 j y hy hj) (by rw [setOD_map]; exact hdo)
end
end Go.Qw
